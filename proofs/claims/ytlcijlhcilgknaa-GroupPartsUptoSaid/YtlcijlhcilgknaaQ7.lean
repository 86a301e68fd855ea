/- What is proved: a part of the way to the statement: AcQ. No conditions. -/
import Derived.Test.YtlcijlhcilgknaaQ6
import Derived.Test.YtlcijlhcilgknaaQ3
set_option linter.unusedVariables false
set_option linter.unusedSimpArgs false
namespace Go.Ab
abbrev Ents (K T:Type):=List (K×T×Nat)
def zez {K T:Type} (ps:Ents K T):List K:=ps.map (·.1)
theorem zj7 {K T:Type} (p:K×T×Nat) (r:Ents K T):zez (p::r)=p.1::zez r:=rfl
section
variable {K T:Type} [DecidableEq K]
def getP:Ents K T->K->Option T
 | [],_=>none
 | p::r,k=>if p.1=k then some p.2.1 else getP r k
def putP:Ents K T->K->T->Nat->Ents K T
 | [],k,t,c=>[(k,t,c)]
 | p::r,k,t,c=>if p.1=k then (k,t,p.2.2)::r else p::putP r k t c
def clkP (ps:Ents K T) (k:K) (c:Nat):Nat:=if (getP ps k).isSome then c else c+1
def idxP:Ents K T->K->Option (Nat×T×Nat)
 | [],_=>none
 | p::r,k=>if p.1=k then some (0,p.2.1,p.2.2) else (idxP r k).map fun (i,q)=>(i+1,q)
theorem zlj (k k':K) (t:T) (c:Nat): ∀ ps:Ents K T,getP (putP ps k t c) k'=if k'=k then some t else getP ps k'
 | []=>by
  simp only [putP,getP]
  by_cases h:k'=k
  ·rw [if_pos h.symm,if_pos h]
  ·rw [if_neg (Ne.symm h),if_neg h]
 | p::r=>by
  have ih:=zlj k k' t c r
  simp only [putP]
  by_cases hp:p.1=k
  ·rw [if_pos hp]
   simp only [getP]
   by_cases h:k'=k
   ·rw [if_pos h.symm,if_pos h]
   ·rw [if_neg (Ne.symm h),if_neg h,if_neg (by rw [hp];exact Ne.symm h)]
  ·rw [if_neg hp]
   simp only [getP,ih]
   by_cases h:k'=k
   ·subst h;rw [if_neg hp,if_pos rfl,if_pos rfl]
   ·rw [if_neg h,if_neg h]
theorem zm9 {k:K}: ∀ {ps:Ents K T},getP ps k=none↔k∉zez ps
 | []=>by simp [getP,zez]
 | p::r=>by
  have ih:=zm9 (k:=k) (ps:=r)
  simp only [getP,zez,List.map_cons,List.mem_cons,not_or] at ih ⊢
  by_cases hp:p.1=k
  ·simp [hp]
  ·simp [hp,ih,Ne.symm hp]
theorem zlg (k:K): ∀ ps:Ents K T,getP ps k=(idxP ps k).map (·.2.1)
 | []=>rfl
 | p::r=>by
  simp only [getP,idxP]
  split
  ·rfl
  ·rw [zlg k r];cases idxP r k<;>rfl
theorem zox {k:K} {t:T} {c i:Nat} {q:T×Nat}: ∀ {ps:Ents K T},idxP ps k=some (i,q)->putP ps k t c=ps.set i (k,t,q.2) /\ i<ps.length
 | [],h=>by simp [idxP] at h
 | p::r,h=>by
  simp only [idxP] at h
  by_cases hp:p.1=k
  ·rw [if_pos hp] at h
   simp only [Option.some.injEq,Prod.mk.injEq] at h
   obtain ⟨rfl,rfl⟩:=h
   simp [putP,hp]
  ·rw [if_neg hp] at h
   cases hr:idxP r k with
   | none=>simp [hr] at h
   | some x=>
    obtain ⟨j,q'⟩:=x
    simp [hr] at h
    obtain ⟨rfl,rfl⟩:=h
    have:=zox (t:=t) (c:=c) hr
    simp [putP,hp,this.1,this.2]
theorem zhv {k:K} {t:T} {c:Nat}: ∀ {ps:Ents K T},idxP ps k=none->putP ps k t c=ps++[(k,t,c)]
 | [],_=>rfl
 | p::r,h=>by
  simp only [idxP] at h
  by_cases hp:p.1=k
  ·rw [if_pos hp] at h;cases h
  ·rw [if_neg hp] at h
   cases hr:idxP r k with
   | none=>simp [putP,hp,zhv hr]
   | some x=>simp [hr] at h
theorem keysP_put (k:K) (t:T) (c:Nat): ∀ ps:Ents K T,zez (putP ps k t c)=if k∈zez ps then zez ps else zez ps++[k]
 | []=>by simp [putP,zez]
 | p::r=>by
  have ih:=keysP_put k t c r
  by_cases hp:p.1=k
  ·rw [putP,if_pos hp,zj7,zj7,if_pos (by simp [hp]),hp]
  ·rw [putP,if_neg hp,zj7,ih,zj7]
   by_cases hm:k∈zez r
   ·rw [if_pos hm,if_pos (by simp [hm])]
   ·rw [if_neg hm,if_neg (by simp [hm,Ne.symm hp])];rfl
theorem zpu {ps:Ents K T} (h:(zez ps).Nodup) (k:K) (t:T) (c:Nat):(zez (putP ps k t c)).Nodup:=by
 rw [keysP_put]
 split
 ·exact h
 ·rename_i hk
  rw [List.nodup_append]
  exact ⟨h,List.pairwise_singleton _ _,fun a ha b hb e=>hk (by rw [List.mem_singleton.1 hb] at e;rw [<- e];exact ha)⟩
theorem getP_mem {k:K} {t:T}: ∀ {ps:Ents K T},getP ps k=some t-> ∃ n,(k,t,n)∈ps
 | [],h=>by simp [getP] at h
 | p::r,h=>by
  simp only [getP] at h
  by_cases hp:p.1=k
  ·rw [if_pos hp] at h
   cases h
   exact ⟨p.2.2,by rw [<- hp];simp⟩
  ·rw [if_neg hp] at h
   obtain ⟨n,hn⟩:=getP_mem h
   exact ⟨n,by simp [hn]⟩
theorem mem_getP {ps:Ents K T} (hn:(zez ps).Nodup) {p:K×T×Nat} (hp:p∈ps):getP ps p.1=some p.2.1:=by
 induction ps with
 | nil=>cases hp
 | cons q r ih=>
  simp only [zez,List.map_cons,List.nodup_cons] at hn
  simp only [getP]
  rcases List.mem_cons.1 hp with rfl|hp
  ·rw [if_pos rfl]
  ·rw [if_neg,ih hn.2 hp]
   intro e
   exact hn.1 (by rw [e];exact List.mem_map_of_mem hp)
end
structure KeyE (kd:KD) {K:Type} [DecidableEq K] (κ:K->AVal):Prop where
 same: ∀ a b,V.sameK kd (κ a) (κ b)=some (decide (a=b))
theorem keyS:KeyE .s (fun s:List UInt8=> .str s):=⟨fun a b=>by
 simp only [V.sameK];congr 1;rw [Bool.eq_iff_iff,beq_iff_eq,decide_eq_true_eq]⟩
def encM {K T:Type} (κ:K->AVal) (v:T->AVal) (ps:Ents K T):List (AVal×AVal×Nat):=ps.map fun p=>(κ p.1,v p.2.1,p.2.2)
section
variable {kd:KD} {K T:Type} [DecidableEq K] {κ:K->AVal} {v:T->AVal}
theorem zqa (hκ:KeyE kd κ) (k:K): ∀ (ps:Ents K T) (i:Nat),V.findK kd (κ k) (encM κ v ps) i=some ((idxP ps k).map fun (j,q)=>(i+j,v q.1,q.2))
 | [],i=>rfl
 | p::r,i=>by
  simp only [encM,List.map_cons,V.findK,hκ.same,idxP]
  by_cases hp:k=p.1
  ·rw [if_pos hp.symm];simp [hp]
  ·rw [if_neg (Ne.symm hp)]
   have ih:=zqa hκ k r (i+1)
   simp only [encM] at ih
   simp only [hp,decide_false,ih]
   cases idxP r k with
   | none=>rfl
   | some x=>obtain ⟨j,q⟩:=x;simp only [Option.map_some];congr 3;omega
theorem fset_enc (hκ:KeyE kd κ) (k:K) (t:T) (ps:Ents K T) (c:Nat):A.fset (some kd) (κ k) (v t) (encM κ v ps) c=some (encM κ v (putP ps k t c),clkP ps k c,.undef):=by
 simp only [A.fset,zqa hκ,clkP,zlg]
 cases h:idxP ps k with
 | none=>simp [zhv h,encM]
 | some x=>
  obtain ⟨j,q⟩:=x
  have:=zox (t:=t) (c:=c) h
  simp only [Option.map_some,Option.isSome_some,if_true,Nat.zero_add,this.1,encM,List.map_set]
end
def zfm (es:List (AVal×AVal×Nat)) (c:Nat):Blk:=zgq (.map es c)
theorem Owns.newBlk {h0 h:za} {l:List Ob} (ho:Owns h0 h l) {id:Nat} (hid:h id=none) {b:Blk} (hb:b.own=true):Owns h0 (upd h id b) (l++[.blk id b]):=
 ho.join ⟨zgm _ hid,fun o hm=>by rw [List.mem_singleton.1 hm];exact zca ..,fun o hm j hj=>by rw [List.mem_singleton.1 hm] at hj;cases hj;exact ⟨hid,fun b hb'=>by rw [zca] at hb';cases hb';exact hb⟩,List.pairwise_singleton _ _⟩
theorem Owns.zl3 {h0 h:za} {l:List Ob} {K T:Type} (ho:Owns h0 h l) (κ:K->AVal) (v:T->AVal) {Q:zQ} (hq: ∀ id h',h id=none->Owns h0 h' (l++[.blk id (zfm (encM κ v []) 0)])->h.le h'->Q (.mp id) h'):B.zl3 h Q:=
 fun id hid=>hq id _ hid (ho.newBlk hid rfl) (zgm _ hid)
section
variable {h0 h:za} {l:List Ob} {kd:KD} {K T:Type} [DecidableEq K] {κ:K->AVal} {v:T->AVal}
theorem Owns.setBlk (ho:Owns h0 h l) (k:Nat) {id:Nat} {b b':Blk} (hk:l[k]? =some (.blk id b)) (hb:b'.own=true):Owns h0 (upd h id b') (l.set k (.blk id b')):=
 ho.turn k hk (zca ..) (fun j c hj hc=>by cases hj;rw [zca] at hc;cases hc;exact hb) (fun j c e1 e2=>by rw [z6];exact e1;intro e;subst e;exact e2 rfl) (.inl rfl)
theorem zm1 {id:Nat} {es:List (AVal×AVal×Nat)} {c:Nat} (hb:h id=some (zfm es c)):A.zlu h (.mp id)=some (es,c):=by simp [A.zlu,hb,zfm,zgq]
theorem objT_blk {id:Nat} {es es':List (AVal×AVal×Nat)} {c c':Nat} {u:AVal} {f:List (AVal×AVal×Nat)->Nat->Option (List (AVal×AVal×Nat)×Nat×AVal)} {Q:zQ} (hb:h id=some (zfm es c)) (hf:f es c=some (es',c',u))
  (hq:Q u (upd h id (zfm es' c'))):A.objT h (.mp id) f Q:=by
 unfold zfm zgq at *
 simp only [A.objT,hb,hf]
 exact hq
theorem lkp_blk {id:Nat} {c:Nat} {ps:Ents K T} (hκ:KeyE kd κ) (hb:h id=some (zfm (encM κ v ps) c)) (z:T) (k:K) (ok:Bool):
  A.lkp h (some kd) (some (v z)) ok (.mp id) (κ k)=some (bif ok then .tup [v ((getP ps k).getD z),.bool (getP ps k).isSome] else v ((getP ps k).getD z)):=by
 simp only [A.lkp,A.entries,zm1 hb,zqa hκ,zlg]
 cases idxP ps k with
 | none=>rfl
 | some x=>rfl
theorem Owns.lkp (ho:Owns h0 h l) (i:Nat) {id c:Nat} {ps:Ents K T} (hi:l[i]? =some (.blk id (zfm (encM κ v ps) c))) (hκ:KeyE kd κ) (z:T) (k:K):A.lkp h (some kd) (some (v z)) false (.mp id) (κ k)=some (v ((getP ps k).getD z)):=
 lkp_blk hκ (ho.at i hi) z k false
theorem Owns.mset (ho:Owns h0 h l) (i:Nat) {id c:Nat} {ps:Ents K T} (hi:l[i]? =some (.blk id (zfm (encM κ v ps) c))) (hκ:KeyE kd κ) (k:K) (t:T) {Q:za->Prop}
  (hq: ∀ h',Owns h0 h' (l.set i (.blk id (zfm (encM κ v (putP ps k t c)) (clkP ps k c))))->But (.mp id) h h'->(∀ j,j≠id->h' j=h j)->Q h'):B.mset h kd (.mp id) (κ k) (v t) Q:=
 objT_blk (ho.at i hi) (fset_enc hκ k t ps c) (hq _ (ho.setBlk i hi rfl) (fun j b e1 e2=>by rw [z6];exact e1;intro e;subst e;exact e2 rfl) fun j hj=>z6 _ _ hj)
end
def zit {K T:Type} (ps:Ents K T) (c:Nat):Prop:=(∀ p∈ps,p.2.2<c) /\ (ps.map (·.2.2)).Nodup
section
variable {K T:Type} {ps D:Ents K T} {c:Nat}
theorem zit.nil (c:Nat):zit ([]:Ents K T) c:=⟨fun _ h=>(by cases h),List.Pairwise.nil⟩
theorem zit.put [DecidableEq K] (hb:zit ps c) (k:K) (t:T):zit (putP ps k t c) (clkP ps k c):=by
 unfold clkP
 rw [zlg]
 cases h:idxP ps k with
 | none=>
  rw [zhv h]
  simp only [Option.map_none,Option.isSome_none,Bool.false_eq_true,if_false]
  refine ⟨fun p hp=> ?_,?_⟩
  ·rcases List.mem_append.1 hp with hp|hp
   ·have:=hb.1 p hp;omega
   ·rw [List.mem_singleton.1 hp];exact Nat.lt_succ_self _
  ·rw [List.map_append,List.nodup_append]
   refine ⟨hb.2,List.pairwise_singleton _ _,fun a ha b hb2=> ?_⟩
   obtain ⟨p,hp,rfl⟩:=List.mem_map.1 ha
   rw [List.map_singleton,List.mem_singleton] at hb2
   have:=hb.1 p hp
   subst hb2
   exact Nat.ne_of_lt this
 | some x=>
  obtain ⟨j,q⟩:=x
  have he:=zox (t:=t) (c:=c) h
  simp only [Option.map_some,Option.isSome_some,if_true,he.1]
  have hq:(ps.map (·.2.2))[j]? =some q.2:=by
   have: ∀ (ps:Ents K T) (j:Nat) (q:T×Nat),idxP ps k=some (j,q)->(ps.map (·.2.2))[j]? =some q.2:=by
    intro ps
    induction ps with
    | nil=>intro j q h;cases h
    | cons p r ih=>
     intro j q h
     simp only [idxP] at h
     split at h
     ·cases h;rfl
     ·cases e:idxP r k with
      | none=>rw [e] at h;cases h
      | some y=>
       obtain ⟨j',q'⟩:=y
       rw [e] at h
       simp only [Option.map_some,Option.some.injEq,Prod.mk.injEq] at h
       obtain ⟨rfl,rfl⟩:=h
       simpa using ih _ _ e
   exact this _ _ _ h
  have hm:(ps.set j (k,t,q.2)).map (·.2.2)=ps.map (·.2.2):=by
   rw [List.map_set]
   apply List.ext_getElem?
   intro i
   rw [List.getElem?_set]
   split
   ·rename_i e;subst e
    split
    ·exact hq.symm
    ·rename_i e2;simp at e2;omega
   ·rfl
  refine ⟨fun p hp=> ?_,by rw [hm];exact hb.2⟩
  have:p.2.2∈(ps.set j (k,t,q.2)).map (·.2.2):=List.mem_map.2 ⟨p,hp,rfl⟩
  rw [hm] at this
  obtain ⟨p',hp',e⟩:=List.mem_map.1 this
  rw [<- e];exact hb.1 p' hp'
theorem zit.inj (hb:zit ps c) {p q:K×T×Nat} (hp:p∈ps) (hq:q∈ps) (e:p.2.2=q.2.2):p=q:=by
 obtain ⟨i,hi,rfl⟩:=List.mem_iff_getElem.1 hp
 obtain ⟨j,hj,rfl⟩:=List.mem_iff_getElem.1 hq
 have:i=j:=by
  refine (List.getElem_inj (h₀:=by simpa using hi) (h₁:=by simpa using hj) hb.2).1 ?_
  simpa using e
 subst this;rfl
theorem zit.all (hb:zit ps c) (h1: ∀ p∈D,p∈ps) (h2:(D.map (·.2.2)).Nodup) (h3: ∀ p∈ps,p.2.2∈D.map (·.2.2)):D.Perm ps:=by
 have nd: ∀ {l:Ents K T},(l.map (·.2.2)).Nodup->l.Nodup:=fun h=>List.Pairwise.of_map (S:=(· ≠ ·)) (fun p:K×T×Nat=>p.2.2) (fun a b h e=>h (by rw [e])) h
 refine (List.perm_ext_iff_of_nodup (nd h2) (nd hb.2)).2 fun p=>⟨h1 p,fun hp=> ?_⟩
 obtain ⟨q,hq,e⟩:=List.mem_map.1 (h3 p hp)
 rwa [hb.inj (h1 q hq) hp e] at hq
end
def zga (m since:Nat) (seen:List Nat) (last:Nat):Blk:=zgq (.mapIter (some m) since seen last)
section
variable {h0 h:za} {l:List Ob} {K T:Type} {κ:K->AVal} {v:T->AVal} {ps:Ents K T} {m c:Nat} {Q:zQ}
theorem Owns.nextMapB (ho:Owns h0 h l) (j:Nat) {it since last:Nat} {seen:List Nat} (hbm:h m=some (zfm (encM κ v ps) c)) (hj:l[j]? =some (.blk it (zga m since seen last))) (hb:zit ps c) (hs:c <= since) (hsl:since <= last)
  (hdone:(∀ p∈ps,p.2.2∈seen)->Q (.tup [.bool false]) h)
  (hstep: ∀ p∈ps,p.2.2∉seen-> ∀ h',Owns h0 h' (l.set j (.blk it (zga m since (seen++[p.2.2]) c)))->(∀ k,k≠it->h' k=h k)->A.zgr h' (.ptr it 0 0)=some (.tup [κ p.1,v p.2.1])->Q (.tup [.bool true,κ p.1,v p.2.1]) h'):
  B.zfc h (.ptr it 0 0) Q:=by
 have hbi:h it=some (zga m since seen last):=ho.at j hj
 have hne:m≠it:=fun e=>by
  subst e
  rw [hbm] at hbi
  have:=Option.some.inj hbi
  unfold zfm zga zgq at this
  cases this
 show A.zfc h (.ptr it 0 0) Q
 have hall:((encM κ v ps).all fun e=>Nat.blt e.2.2 since)=true:=by
  rw [List.all_eq_true]
  intro e he
  obtain ⟨p,hp,rfl⟩:=List.mem_map.1 he
  have:=hb.1 p hp
  rw [Nat.blt_eq];show p.2.2<since;omega
 have hle:Nat.ble since last=true:=by rw [Nat.ble_eq];exact hsl
 have hst:A.steps h (.ptr it 0 0)=some (it,match (encM κ v ps).filter (fun e=> !seen.contains e.2.2) with
   | []=>[(zga m since seen last,.tup [.bool false])]
   | l=>l.map fun e=>({ zga m since seen last with obj:=some (.mapIter (some m) since (seen++[e.2.2]) c) },.tup [.bool true,e.1,e.2.1])):=by
  simp only [A.steps,hbi]
  unfold zga zgq
  simp only [zm1 hbm,hall,hle,Bool.and_self,cond_true]
  rfl
 simp only [A.zfc,hst]
 intro p hp
 have hf: ∀ e,e∈(encM κ v ps).filter (fun e=> !seen.contains e.2.2)↔ ∃ q∈ps,q.2.2∉seen /\ e=(κ q.1,v q.2.1,q.2.2):=fun e=>by
  rw [List.mem_filter]
  constructor
  ·rintro ⟨he,hc⟩
   obtain ⟨q,hq,rfl⟩:=List.mem_map.1 he
   refine ⟨q,hq,?_,rfl⟩
   simpa using hc
  ·rintro ⟨q,hq,hn,rfl⟩
   exact ⟨List.mem_map.2 ⟨q,hq,rfl⟩,by simpa using hn⟩
 cases hfl:(encM κ v ps).filter (fun e=> !seen.contains e.2.2) with
 | nil=>
  rw [hfl] at hp
  rw [List.mem_singleton.1 hp]
  have:upd h it (zga m since seen last)=h:=upd_self hbi
  rw [this]
  refine hdone fun q hq=> ?_
  by_cases hn:q.2.2∈seen
  ·exact hn
  ·have:=(hf _).2 ⟨q,hq,hn,rfl⟩
   rw [hfl] at this;cases this
 | cons e0 es0=>
  rw [hfl] at hp
  obtain ⟨e,he,rfl⟩:=List.mem_map.1 hp
  rw [<- hfl] at he
  obtain ⟨q,hq,hn,rfl⟩:=(hf _).1 he
  have hblk:({ zga m since seen last with obj:=some (.mapIter (some m) since (seen++[q.2.2]) c) }:Blk)=zga m since (seen++[q.2.2]) c:=rfl
  show Q _ (upd h it { zga m since seen last with obj:=some (.mapIter (some m) since (seen++[q.2.2]) c) })
  rw [hblk]
  refine hstep q hq hn _ (ho.setBlk j hj rfl) (fun k hk=>z6 _ _ hk) ?_
  have hbm':upd h it (zga m since (seen++[q.2.2]) c) m=some (zfm (encM κ v ps) c):=by rw [z6 _ _ hne];exact hbm
  have hfind:(encM κ v ps).find? (fun e=>Nat.beq e.2.2 q.2.2)=some (κ q.1,v q.2.1,q.2.2):=by
   have key: ∀ (ps:Ents K T),(ps.map (·.2.2)).Nodup->q∈ps->(encM κ v ps).find? (fun e=>Nat.beq e.2.2 q.2.2)=some (κ q.1,v q.2.1,q.2.2):=by
    intro ps
    induction ps with
    | nil=>intro _ h;cases h
    | cons a r ih=>
     intro hnd hm
     simp only [List.map_cons,List.nodup_cons] at hnd
     simp only [encM,List.map_cons,List.find?_cons]
     rcases List.mem_cons.1 hm with rfl|hm
     ·simp [Nat.beq_refl]
     ·have hne:a.2.2≠q.2.2:=fun e=>hnd.1 (by rw [e];exact List.mem_map.2 ⟨q,hm,rfl⟩)
      have:Nat.beq a.2.2 q.2.2=false:=by
       cases e:Nat.beq a.2.2 q.2.2 with
       | false=>rfl
       | true=>exact absurd (Nat.eq_of_beq_eq_true e) hne
      rw [this]
      exact ih hnd.2 hm
   exact key ps hb.2 hq
  simp only [A.zgr,upd_get]
  unfold zga zgq
  have hbm'':=hbm'
  unfold zga zgq at hbm''
  simp only [zm1 hbm'',List.getLast?_append,List.getLast?_singleton,Option.some_or,Nat.beq_refl,cond_true,hfind]
end
structure Weak {T:Type} (less:T->T->Bool):Prop where
 asym: ∀ {a b},less a b=true->less b a=false
 zl2: ∀ {a b c},less a b=false->less b c=false->less a c=false
section
variable {T:Type} {less:T->T->Bool}
theorem Weak.irr (W:Weak less) (a:T):less a a=false:=by
 cases h:less a a with
 | false=>rfl
 | true=>have:=W.asym h;rw [h] at this;cases this
theorem Weak.trans (W:Weak less) {a b c:T} (h1:less a b=true) (h2:less b c=true):less a c=true:=by
 cases h:less a c with
 | true=>rfl
 | false=>have:=W.zl2 h (W.asym h2);rw [h1] at this;cases this
def lt' (less:T->T->Bool) (x y:T×Nat):Prop:=less x.1 y.1=true \/ (less y.1 x.1=false /\ x.2<y.2)
theorem lt'_trans (W:Weak less) {x y z:T×Nat} (h1:lt' less x y) (h2:lt' less y z):lt' less x z:=by
 unfold lt' at *
 rcases h1 with h1|⟨h1,n1⟩<;>rcases h2 with h2|⟨h2,n2⟩
 ·exact .inl (W.trans h1 h2)
 ·left
  cases h:less x.1 z.1 with
  | true=>rfl
  | false=>have:=W.zl2 h h2;rw [h1] at this;cases this
 ·left
  cases h:less x.1 z.1 with
  | true=>rfl
  | false=>have:=W.zl2 h1 h;rw [h2] at this;cases this
 ·exact .inr ⟨W.zl2 h2 h1,by omega⟩
theorem lt'_gt {x y:T×Nat} (hn:y.2<x.2):lt' less x y↔less x.1 y.1=true:=⟨fun h=>h.elim id fun ⟨_,h⟩=>by omega,.inl⟩
theorem lt'_le (W:Weak less) {x y:T×Nat} (hn:x.2<y.2):lt' less x y↔less y.1 x.1=false:=
 ⟨fun h=>h.elim (fun h=>W.asym h) fun ⟨h,_⟩=>h,fun h=> .inr ⟨h,hn⟩⟩
end
end Go.Ab
namespace Go.Ab
variable {C:CSem} {N:zN}
theorem add1 {a:Nat} (h:a<4611686018427387904):V.bin .add (.int .i64 (a:Int)) (.int .i64 1)=some (.int .i64 ((a+1:Nat):Int)):=by
 rw [V.ze8,wrap_i64 (by omega) (by omega)];simp
theorem sub1 {a:Nat} (h:1 <= a) (ha:a<4611686018427387904):V.bin .sub (.int .i64 (a:Int)) (.int .i64 1)=some (.int .i64 ((a-1:Nat):Int)):=by
 rw [V.zgt,wrap_i64 (by omega) (by omega)];congr 2;omega
theorem lssN {a b:Nat}:V.bin .lss (.int .i64 (a:Int)) (.int .i64 (b:Int))=some (.bool (decide (a<b))):=by rw [V.zec];congr 3;exact propext (by omega)
theorem leqN {a b:Nat}:V.bin .leq (.int .i64 (a:Int)) (.int .i64 (b:Int))=some (.bool (decide (a <= b))):=by rw [V.bin_leq];congr 3;exact propext (by omega)
theorem gtrN {a b:Nat}:V.bin .gtr (.int .i64 (a:Int)) (.int .i64 (b:Int))=some (.bool (decide (b<a))):=by rw [V.zmq];congr 3;exact propext (by omega)
structure zc0 (E:zz) {X:Type} (cs:X->List AVal) (v:X->AVal):Prop where
 pos:0<E.es
 small:E.bytes <= 1000
 zlen:E.z.length=E.es
 len: ∀ t,(cs t).length=E.es
 new: ∀ t,zei [(0,E.kp,v t)] (repL 1 E.z)=some (cs t)
 ld: ∀ {h:za} {x:AVal} {L R:List (List AVal)} {i:Nat} {t:X} {K:AVal->Prop},SlX h E.es x L R->L[i]? =some (cs t)->K (v t)->E.ld h (elp E.es x i 0) K
 kpt: ∀ {h:za} {x:AVal} {L R:List (List AVal)} {i:Nat} {t:X},SlX h E.es x L R->L[i]? =some (cs t)->Kp h (elp E.es x i 0) E.kp
 st: ∀ {h0 h:za} {x:AVal} {L R:List (List AVal)} {i:Nat} {c:List AVal} {t:X} {K:za->Prop},Owns h0 h [.sl E.es x L R]->L[i]? =some c ->
  (∀ h',Owns h0 h' [.sl E.es x (L.set i (cs t)) R]->K h')->E.st h (elp E.es x i 0) (v t) K
theorem zc0.comp {E:zz} {X Y:Type} {cs:X->List AVal} {v:X->AVal} (S:zc0 E cs v) (f:Y->X):zc0 E (fun y=>cs (f y)) (fun y=>v (f y)):=
 ⟨S.pos,S.small,S.zlen,fun t=>S.len _,fun t=>S.new _,fun h1 h2 h3=>S.ld h1 h2 h3,fun h1 h2=>S.kpt h1 h2,fun h1 h2 h3=>S.st h1 h2 h3⟩
theorem seqF {X:Type} {es bytes f:Nat} {z:List AVal} {sh:List Ck} {cs:X->List AVal} (hp:0<es) (hb:bytes <= 1000) (hz:z.length=es) (hl: ∀ t,(cs t).length=es):zc0 (opsF es bytes z f sh) cs (fun t=> .agg (cs t)) where
 pos:=hp
 small:=hb
 zlen:=hz
 len:=hl
 new t:=by
  have hrep:repL 1 z=z:=by unfold repL;split<;>simp
  have h1:=hl t
  show zei [(0,some es,AVal.agg (cs t))] (repL 1 z)=_
  rw [hrep]
  simp [h1,hz]
 ld hs hc hk:=by
  simp only [opsF,B.ldn_eq] at hs ⊢
  rw [hs.elem hc];exact hk
 kpt hs hc:=⟨_,hs.elem hc⟩
 st ho hc hk:=ho.stElem 0 rfl hc (hl _) fun h' h1 _=>hk h' h1
theorem seqS {X:Type} {bytes f:Nat} {z:AVal} {v:X->AVal} (hb:bytes <= 1000) (hc: ∀ t,(v t).zdd=true):zc0 (opsS bytes z f) (fun t=>[v t]) v where
 pos:=Nat.one_pos
 small:=hb
 zlen:=rfl
 len _:=rfl
 new t:=by simp [opsS,hc,repL]
 ld hs hcc hk:=by
  simp only [opsS,B.ze4] at hs ⊢
  rw [hs.cell hcc];exact hk
 kpt hs hcc:=⟨_,hs.cell hcc⟩
 st {h0 h x L R i c t K} ho hcc hk:=by
  have hs:SlX h 1 x L R:=ho.slAt 0 rfl
  have hcl:c.length=1:=hs.len c (List.mem_append_left _ (List.mem_of_getElem? hcc))
  obtain ⟨u,rfl⟩:=List.length_eq_one_iff.1 hcl
  exact ho.st 0 rfl hcc (by show 0<1;omega) (hc _) fun h' h1 _=>hk h' h1
def Rw (E:zz) {X:Type} (cs:X->List AVal) (h0 h:za) (x:AVal) (G:List X) (R:List (List AVal)):Prop:=Owns h0 h [.sl E.es x (G.map cs) R]
section
variable {E:zz} {X:Type} {cs:X->List AVal} {v:X->AVal} {h0 h:za} {x:AVal} {G:List X} {R:List (List AVal)}
theorem Rw.idx (ho:Rw E cs h0 h x G R) {i:Nat} (hi:i<G.length):V.idxS E.es x (.int .i64 (i:Int))=some (elp E.es x i 0):=(Owns.slAt ho 0 rfl).idxN (by simpa using hi)
theorem Rw.lenE (ho:Rw E cs h0 h x G R):V.zcw x=some (.int .i64 G.length):=by have:=(Owns.slAt ho 0 rfl).zcw;simpa using this
theorem Rw.le (ho:Rw E cs h0 h x G R):h0.le h:=Owns.le ho
theorem Rw.ld (ho:Rw E cs h0 h x G R) (S:zc0 E cs v) {i:Nat} {t:X} (hg:G[i]? =some t) {K:AVal->Prop} (hk:K (v t)):E.ld h (elp E.es x i 0) K:=
 S.ld (Owns.slAt ho 0 rfl) (by rw [List.getElem?_map,hg];rfl) hk
theorem Rw.st (ho:Rw E cs h0 h x G R) (S:zc0 E cs v) {i:Nat} {t:X} (hi:i<G.length) {K:za->Prop} (hk: ∀ h',Rw E cs h0 h' x (G.set i t) R->K h'):E.st h (elp E.es x i 0) (v t) K:=
 S.st ho (c:=cs G[i]) (by rw [List.getElem?_map,List.getElem?_eq_getElem hi];rfl) fun h' h1=>hk h' (by unfold Rw;rwa [List.map_set])
theorem set_mid {P Q:List X} {a b:X} {i:Nat} (hi:i=P.length):(P++a::Q).set i b=P++b::Q:=by subst hi;simp
theorem get_mid {P Q:List X} {a:X} {i:Nat} (hi:i=P.length):(P++a::Q)[i]? =some a:=by subst hi;simp
theorem set_mid2 {P Q T:List X} {a b c:X} {j:Nat} (hj:j=P.length+1+Q.length):(P++a::(Q++b::T)).set j c=P++a::(Q++c::T):=by
 have:=set_mid (P:=P++a::Q) (Q:=T) (a:=b) (b:=c) (i:=j) (by simp;omega)
 simpa using this
theorem get_mid2 {P Q T:List X} {a b:X} {j:Nat} (hj:j=P.length+1+Q.length):(P++a::(Q++b::T))[j]? =some b:=by
 have:=get_mid (P:=P++a::Q) (Q:=T) (a:=b) (i:=j) (by simp;omega)
 simpa using this
theorem Rw.swapDn {P Q T:List X} {a b:X} {i j:Nat} (ho:Rw E cs h0 h x (P++a::(Q++b::T)) R) (S:zc0 E cs v) (hi:i=P.length) (hj:j=P.length+1+Q.length) {K:za->Prop}
  (hk: ∀ h',Rw E cs h0 h' x (P++b::(Q++a::T)) R->K h'):E.st h (elp E.es x j 0) (v a) fun h=>E.st h (elp E.es x i 0) (v b) K:=by
 refine ho.st S (by simp;omega) fun h1 o1=> ?_
 rw [set_mid2 hj] at o1
 refine o1.st S (by simp;omega) fun h2 o2=>hk h2 ?_
 rwa [set_mid hi] at o2
end
structure zdm (C:CSem) {X:Type} (v:X->AVal) (c:X->X->Int) (f:AVal) (h0:za):Prop where
 call: ∀ (h:za) (a b:X) (K:zQ),h0.le h->K (.int .i64 (c a b)) h->B.zf1 h C f [v a,v b] K
section
variable {E:zz} {T:Type} {cs:T->List AVal} {v:T->AVal} {c:T->T->Int} {h0 h:za} {x f:AVal} {R:List (List AVal)} {Q:zQ}
def zd9 (c:T->T->Int) (a b:T):Bool:=decide (c a b<0)
theorem zpv {X:Type} (L:List X):L=[] \/ ∃ L0 y,L=L0++[y]:=by
 rcases List.eq_nil_or_concat L with h|⟨A,b,h⟩
 ·exact .inl h
 ·exact .inr ⟨A,b,by rw [h,List.concat_eq_append]⟩
theorem zht (S:zc0 E cs v) (W:Weak (zd9 c)) {P M U:List (T×Nat)} (hlen:(P++(M++U)).length <= 100000000) (ht:M.Pairwise fun a b=>a.2<b.2)
  (hc:zdm C v c f h0) {a b:Nat} (ha:a=P.length) (hb:b=P.length+M.length) (ho:Rw E (fun p:T×Nat=>cs p.1) h0 h x (P++(M++U)) R)
  (hq: ∀ h' M',M'.Perm M->M'.Pairwise (lt' (zd9 c))->Rw E (fun p:T×Nat=>cs p.1) h0 h' x (P++(M'++U)) R->Q (.tup []) h'):
  zbf.cps C E x (.int .i64 (a:Int)) (.int .i64 (b:Int)) f h Q:=by
 have S':=S.comp (fun p:T×Nat=>p.1)
 subst ha
 have hlen':P.length+M.length+U.length <= 100000000:=by simpa [Nat.add_assoc] using hlen
 simp -dsimp only [zbf.cps,add1 (show P.length<4611686018427387904 by omega),B.zd]
 cases M with
 | nil=>
  intro Y hY
  refine hY _ _ ?_
  simp -dsimp only [zbf.l3,lssN,B.zd]
  rw [show decide (P.length+1<b)=false by simp at hb ⊢;omega,B.cond_false]
  exact hq h [] (List.Perm.refl _) .nil ho
 | cons m M1=>
 simp only [List.length_cons] at hlen' hb
 rw [List.pairwise_cons] at ht
 refine zw.intro (fun t vs hh=> ∃ (i:Nat) (L M2:List (T×Nat)),t=M2.length /\ vs=[.int .i64 i] /\ i=P.length+L.length /\ i+M2.length=b /\ Rw E (fun p:T×Nat=>cs p.1) h0 hh x (P++(L++(M2++U))) R /\
  (L++M2).Perm (m::M1) /\ L.Pairwise (lt' (zd9 c)) /\ M2.Pairwise (fun a b=>a.2<b.2) /\ ∀ p∈L,∀ q∈M2,p.2<q.2) M1.length ?_
  ⟨P.length+1,[m],M1,rfl,rfl,by simp,by omega,by simpa using ho,List.Perm.refl _,List.pairwise_singleton ..,ht.2,by simpa using ht.1⟩
 rintro Y t vs hh ⟨i,L,M2,rfl,rfl,hi,hib,o,hp,hs,ht2,htt⟩ hY
 simp -dsimp only [zbf.l3,lssN,B.zd]
 cases M2 with
 | nil=>
  rw [show decide (i<b)=false by simp at hib ⊢;omega,B.cond_false]
  rw [List.append_nil] at hp
  exact hq hh L hp hs o
 | cons x0 M2=>
  simp only [List.length_cons] at hib
  rw [show decide (i<b)=true by simp;omega,B.cond_true]
  rw [List.pairwise_cons] at ht2
  have hll:P.length+(L.length+(M2.length+1))=b:=by omega
  refine zw.intro (fun t vs h2=> ∃ (L1 L2:List (T×Nat)),t=L1.length /\ vs=[.int .i64 ((P.length+L1.length:Nat):Int)] /\ L=L1++L2 /\ Rw E (fun p:T×Nat=>cs p.1) h0 h2 x (P++(L1++x0::(L2++(M2++U)))) R /\
   ∀ q∈L2,lt' (zd9 c) x0 q) L.length ?_ ⟨L,[],rfl,by rw [hi],by simp,by simpa using o,by simp⟩
  rintro Z t vs h2 ⟨L1,L2,rfl,rfl,rfl,o2,hx⟩ hZ
  rw [List.pairwise_append] at hs
  have fin:(L1=[] \/ ∃ L0 y,L1=L0++[y] /\ lt' (zd9 c) y x0)->Y [.int .i64 ((i+1:Nat):Int)] h2:=fun hz=>by
   have hlow: ∀ p∈L1,lt' (zd9 c) p x0:=by
    rcases hz with rfl|⟨L0,y,rfl,hy⟩
    ·simp
    ·intro p hpm
     rcases List.mem_append.1 hpm with h1|h1
     ·exact lt'_trans W ((List.pairwise_append.1 hs.1).2.2 p h1 y (by simp)) hy
     ·rw [List.mem_singleton.1 h1];exact hy
   refine hY M2.length _ _ (by simp) ⟨i+1,L1++x0::L2,M2,rfl,rfl,by simp at hi ⊢;omega,by omega,by simpa using o2,?_,?_,ht2.2,?_⟩
   ·refine List.Perm.trans ?_ hp
    simp only [List.append_assoc,List.cons_append]
    refine List.Perm.append_left _ ?_
    exact (List.perm_middle (l₁:=L2) (l₂:=M2) (a:=x0)).symm
   ·rw [List.pairwise_append,List.pairwise_cons]
    refine ⟨hs.1,⟨hx,hs.2.1⟩,fun p h1 q h2=> ?_⟩
    rcases List.mem_cons.1 h2 with rfl|h2
    ·exact hlow p h1
    ·exact hs.2.2 p h1 q h2
   ·intro p h1 q h2
    rcases List.mem_append.1 h1 with h1|h1
    ·exact htt p (List.mem_append_left _ h1) q (List.mem_cons_of_mem _ h2)
    ·rcases List.mem_cons.1 h1 with rfl|h1
     ·exact ht2.1 q h2
     ·exact htt p (List.mem_append_right _ h1) q (List.mem_cons_of_mem _ h2)
  have hll2:i=P.length+(L1.length+L2.length):=by simpa using hi
  simp -dsimp only [zbf.l2,zbf.k1,gtrN,B.zd]
  obtain rfl|⟨L0,y,rfl⟩:=zpv L1
  ·simp -dsimp [add1 (show i<4611686018427387904 by omega)]
   exact fin (.inl rfl)
  ·have hyx:y.2<x0.2:=htt y (by simp) x0 (by simp)
   have o2':=o2
   simp only [List.append_assoc,List.cons_append,List.nil_append] at o2'
   simp only [List.length_append,List.length_singleton] at hll2 hlen' hll
   have hj:P.length+(L0++[y]).length=P.length+L0.length+1:=by simp [Nat.add_assoc]
   rw [show decide (P.length<P.length+(L0++[y]).length)=true by simp]
   rw [hj]
   simp -dsimp only [B.gd_t,B.zoy,B.zce,zp7,sub1 (show 1 <= P.length+L0.length+1 by omega) (by omega),Nat.add_sub_cancel,o2.idx (i:=P.length+L0.length+1) (by simp;omega),o2.idx (i:=P.length+L0.length) (by simp),B.zd]
   have o3:Rw E (fun p:T×Nat=>cs p.1) h0 h2 x ((P++L0)++y::([]++x0::(L2++(M2++U)))) R:=by simpa using o2
   have gy:((P++L0)++y::([]++x0::(L2++(M2++U))))[P.length+L0.length]? =some y:=get_mid (by simp)
   have gx:((P++L0)++y::([]++x0::(L2++(M2++U))))[P.length+L0.length+1]? =some x0:=get_mid2 (by simp)
   refine o3.ld S' gx ?_
   refine o3.ld S' gy ?_
   refine hc.call _ _ _ _ o2.le ?_
   simp -dsimp only [B.gd_t,B.zoy,B.zce,zp7,V.zec,B.zd,B.zev]
   refine B.zr (fun hb2=> ?_) (fun hb2=> ?_)
   ·simp -dsimp only [sub1 (show 1 <= P.length+L0.length+1 by omega) (by omega),Nat.add_sub_cancel,o2.idx (i:=P.length+L0.length+1) (by simp;omega),o2.idx (i:=P.length+L0.length) (by simp),B.zd]
    refine o3.ld S' gy ?_
    refine o3.ld S' gx ?_
    refine o3.swapDn S' (by simp) (by simp) fun h4 o4=> ?_
    refine hZ L0.length _ _ (by simp) ⟨L0,y::L2,rfl,rfl,by simp,by simpa using o4,?_⟩
    intro q hq2
    rcases List.mem_cons.1 hq2 with rfl|hq2
    ·exact (lt'_gt hyx).2 hb2
    ·exact hx q hq2
   ·simp -dsimp only [add1 (show i<4611686018427387904 by omega),B.zd]
    exact fin (.inr ⟨L0,y,rfl,(lt'_le W hyx).2 hb2⟩)
end
end Go.Ab
namespace Go.Ab
variable {C:CSem} {N:zN}
section
variable {E:zz} {T:Type} {cs:T->List AVal} {v:T->AVal}
def AskSpec (C:CSem) (v:T->AVal) (f:AVal) (p:T->Bool) (h:za):Prop:= ∀ (t:T) (h':za) (K:zQ),h.le h'->K (.bool (p t)) h'->B.zf1 h' C f [v t] K
def idxI (p:T->Bool) (L:List T):Int:=match L.findIdx? p with|some i=>(i:Int)|none=> -1
theorem zna {α:Type} {p:α->Bool} {L:List α} {k:Nat} (hk:k<L.length) (h: ∀ i,i<k-> ∀ a,L[i]? =some a->p a=false) (hp:p L[k]=true):L.findIdx? p=some k:=by
 rw [List.findIdx?_eq_some_iff_getElem]
 exact ⟨hk,hp,fun j hj=>by simp [h j hj _ (List.getElem?_eq_getElem (by omega))]⟩
theorem zqm (S:zc0 E cs v) {x f:AVal} {p:T->Bool} {L:List T} {R:List (List AVal)} {h:za} {Q:zQ} (hx:SlX h E.es x (L.map cs) R) (hlen:L.length<4611686018427387904) (hf:AskSpec C v f p h)
  (hq:Q (.int .i64 (idxI p L)) h):zb3.cps C E x f h Q:=by
 have e1:=hx.zcw
 rw [List.length_map] at e1
 simp -dsimp only [zb3.cps,e1,B.zd]
 refine zw.intro (fun t vs hh=>hh=h /\ ∃ k:Nat,k+t=L.length /\ vs=[.int .i64 (k:Int)] /\ ∀ i,i<k-> ∀ a,L[i]? =some a->p a=false) L.length ?_ ⟨rfl,0,by omega,rfl,fun i hi=>by omega⟩
 rintro Y t vs h ⟨rfl,k,ht,rfl,hno⟩ hY
 simp -dsimp only [zb3.l2,zb3.k1,lssN,B.zd]
 refine B.zr (fun hb=> ?_) (fun hb=> ?_)<;>simp only [decide_eq_true_eq,decide_eq_false_iff_not] at hb
 ·have hg:(L.map cs)[k]? =some (cs L[k]):=by rw [List.getElem?_map,List.getElem?_eq_getElem hb];rfl
  have hidx:V.idxS E.es x (.int .i64 (k:Int))=some (elp E.es x k 0):=hx.idxN (by simpa using hb)
  simp -dsimp only [hidx,B.zd]
  refine S.ld hx hg ?_
  refine hf _ _ _ (za.le_refl _) ?_
  refine B.zr (fun hc=> ?_) (fun hc=> ?_)
  ·have:idxI p L=(k:Int):=by rw [idxI,zna hb hno hc]
   rw [this] at hq;exact hq
  ·simp -dsimp only [add1 (show k<4611686018427387904 by omega),B.zd]
   refine hY (L.length-(k+1)) _ _ (by omega) ⟨rfl,k+1,by omega,rfl,fun i hi a ha=> ?_⟩
   by_cases e:i=k
   ·subst e;rw [List.getElem?_eq_getElem hb] at ha;cases ha;exact hc
   ·exact hno i (by omega) a ha
 ·have:idxI p L= -1:=by
   have:L.findIdx? p=none:=by
    rw [List.findIdx?_eq_none_iff]
    intro a ha
    obtain ⟨j,hj,rfl⟩:=List.getElem_of_mem ha
    exact hno j (by omega) _ (List.getElem?_eq_getElem hj)
   rw [idxI,this]
  rw [this] at hq;exact hq
end
end Go.Ab
namespace Go.Ab
variable {C:CSem}
structure zcg {X:Type} (a b:Nat) (G G':List X):Prop where
 perm:G'.Perm G
 out: ∀ i,i<a \/ b <= i->G'[i]? =G[i]?
theorem zcg.refl {X:Type} (a b:Nat) (G:List X):zcg a b G G:=⟨.refl _,fun _ _=>rfl⟩
theorem zcg.trans {X:Type} {a b:Nat} {G G' G'':List X} (x:zcg a b G G') (y:zcg a b G' G''):zcg a b G G'':=⟨y.perm.trans x.perm,fun i hi=>(y.out i hi).trans (x.out i hi)⟩
theorem zcg.mono {X:Type} {a b a' b':Nat} {G G':List X} (x:zcg a b G G') (ha:a' <= a) (hb:b <= b'):zcg a' b' G G':=⟨x.perm,fun i hi=>x.out i (by omega)⟩
theorem zcg.len {X:Type} {a b:Nat} {G G':List X} (x:zcg a b G G'):G'.length=G.length:=x.perm.length_eq
theorem zcg.same {X:Type} {a b:Nat} {G G':List X} (w:zcg a b G G') {k:Nat} (hk:k<a \/ b <= k) (h1:k<G'.length) (h2:k<G.length):G'[k]=G[k]:=by
 have:=w.out k hk
 rw [List.getElem?_eq_getElem h1,List.getElem?_eq_getElem h2] at this
 exact Option.some.inj this
def swp {X:Type} (G:List X) (i j:Nat) (hi:i<G.length) (hj:j<G.length):List X:=(G.set i G[j]).set j G[i]
theorem swp_perm {X:Type} {G:List X} {i j:Nat} (hi:i<G.length) (hj:j<G.length):(swp G i j hi hj).Perm G:=by
 unfold swp
 exact List.set_set_perm hi hj
theorem swp_get {X:Type} {G:List X} {i j:Nat} (hi:i<G.length) (hj:j<G.length) (k:Nat):(swp G i j hi hj)[k]? =if k=j then some G[i] else if k=i then some G[j] else G[k]? :=by
 unfold swp
 rw [List.getElem?_set]
 by_cases e:j=k
 ·subst e;simp [hj]
 ·rw [if_neg e,if_neg (Ne.symm e),List.getElem?_set]
  by_cases e2:i=k
  ·subst e2;simp [hi]
  ·rw [if_neg e2,if_neg (Ne.symm e2)]
theorem zds {X:Type} {G:List X} {i j a b:Nat} (hi:i<G.length) (hj:j<G.length) (h1:a <= i) (h2:i<b) (h3:a <= j) (h4:j<b):zcg a b G (swp G i j hi hj):=⟨swp_perm hi hj,fun k hk=>by
 rw [swp_get,if_neg (by omega),if_neg (by omega)]⟩
section
variable {E:zz} {X:Type} {cs:X->List AVal} {v:X->AVal} {h0 h:za} {x f:AVal} {G:List X} {R:List (List AVal)} {c:X->X->Int}
theorem Rw.swap (ho:Rw E cs h0 h x G R) (S:zc0 E cs v) {i j:Nat} (hi:i<G.length) (hj:j<G.length) {K:za->Prop} (hk: ∀ h',Rw E cs h0 h' x (swp G i j hi hj) R->K h'):
  E.st h (elp E.es x i 0) (v G[j]) fun h=>E.st h (elp E.es x j 0) (v G[i]) K:=by
 refine ho.st S (t:=G[j]) hi fun h1 o1=> ?_
 exact o1.st S (t:=G[i]) (by simpa using hj) fun h2 o2=>hk h2 o2
theorem zg9 (S:zc0 E cs v) (hx:SlX h0 E.es x (G.map cs) R) (hc:zdm C v c f h0) {p:AVal} {n:Int} (ho:Owns h0 h [.box p [.int .i64 n]]) {i j:Nat} (hi:i<G.length) (hj:j<G.length) {Q:zQ}
  (hq: ∀ (i' j':Nat) (n':Int) h',(i'=i \/ i'=j)->(j'=i \/ j'=j)->Owns h0 h' [.box p [.int .i64 n']]->Q (.tup [.int .i64 (i':Int),.int .i64 (j':Int)]) h'):zem.cps C E x (.int .i64 (i:Int)) (.int .i64 (j:Int)) p f h Q:=by
 have hxx:=hx.mono ho.le
 have ii:V.idxS E.es x (.int .i64 (i:Int))=some (elp E.es x i 0):=hxx.idxN (by simpa using hi)
 have ij:V.idxS E.es x (.int .i64 (j:Int))=some (elp E.es x j 0):=hxx.idxN (by simpa using hj)
 have gi:(G.map cs)[i]? =some (cs G[i]):=by rw [List.getElem?_map,List.getElem?_eq_getElem hi];rfl
 have gj:(G.map cs)[j]? =some (cs G[j]):=by rw [List.getElem?_map,List.getElem?_eq_getElem hj];rfl
 obtain ⟨id,rfl,hb⟩:=ho.zom 0 rfl
 have ld:A.ldv h (.ptr id 0 0)=some (.int .i64 n):=by rw [zk2 hb];rfl
 simp -dsimp only [zem.cps,zem.k1,ij,B.zd]
 refine S.ld hxx gj ?_
 simp -dsimp only [ii,B.zd]
 refine S.ld hxx gi ?_
 refine hc.call _ _ _ _ ho.le ?_
 simp -dsimp only [V.zec,B.zd]
 refine B.zr (fun hd=> ?_) (fun hd=> ?_)
 ·simp -dsimp only [B.zhf,B.ze4,ld,V.ze8,B.zd]
  refine ho.boxSt 0 (off:=0) rfl rfl (by simp) fun h2 o2 _=> ?_
  exact hq j i _ h2 (.inr rfl) (.inl rfl) (by simpa using o2)
 ·exact hq i j n h (.inl rfl) (.inr rfl) ho
abbrev O2I (C:CSem) (E:zz) (f1:Nat):Prop:= ∀ (v0 v1 v2 v3 v4:AVal) (h:za) (Q:zQ),zem.cps C E v0 v1 v2 v3 v4 h (dn Q)->C f1 [v0,v1,v2,v3,v4] h Q
abbrev MedI (C:CSem) (E:zz) (f1 f2:Nat):Prop:= ∀ (v0 v1 v2 v3 v4 v5:AVal) (h:za) (Q:zQ),zen.cps C E f1 v0 v1 v2 v3 v4 v5 h (dn Q)->C f2 [v0,v1,v2,v3,v4,v5] h Q
abbrev AdjI (C:CSem) (E:zz) (f2 f3:Nat):Prop:= ∀ (v0 v1 v2 v3:AVal) (h:za) (Q:zQ),zdp.cps C E f2 v0 v1 v2 v3 h (dn Q)->C f3 [v0,v1,v2,v3] h Q
theorem zha {f1:Nat} (io:O2I C E f1) (S:zc0 E cs v) (hx:SlX h0 E.es x (G.map cs) R) (hc:zdm C v c f h0) {p:AVal} {n:Int} (ho:Owns h0 h [.box p [.int .i64 n]]) {i j k:Nat} (hi:i<G.length) (hj:j<G.length) (hk:k<G.length) {Q:zQ}
  (hq: ∀ (m:Nat) (n':Int) h',(m=i \/ m=j \/ m=k)->Owns h0 h' [.box p [.int .i64 n']]->Q (.int .i64 (m:Int)) h'):zen.cps C E f1 x (.int .i64 (i:Int)) (.int .i64 (j:Int)) (.int .i64 (k:Int)) p f h Q:=by
 simp -dsimp only [zen.cps,zen.k1]
 refine io _ _ _ _ _ _ _ (zg9 S hx hc ho hi hj fun a b n1 h1 ha hb o1=>zbu ?_)
 simp -dsimp only [V.zfw,List.getElem?_cons_zero,List.getElem?_cons_succ,B.zd]
 have la:a<G.length:=by rcases ha with rfl|rfl<;>assumption
 have lb:b<G.length:=by rcases hb with rfl|rfl<;>assumption
 refine io _ _ _ _ _ _ _ (zg9 S hx hc o1 lb hk fun a2 b2 n2 h2 ha2 hb2 o2=>zbu ?_)
 simp -dsimp only [V.zfw,List.getElem?_cons_zero,List.getElem?_cons_succ,B.zd]
 have la2:a2<G.length:=by rcases ha2 with rfl|rfl<;>assumption
 refine io _ _ _ _ _ _ _ (zg9 S hx hc o2 la la2 fun a3 b3 n3 h3 ha3 hb3 o3=>zbu ?_)
 simp -dsimp only [V.zfw,List.getElem?_cons_zero,List.getElem?_cons_succ,B.zd]
 refine hq b3 n3 h3 ?_ o3
 omega
theorem zes {f1 f2:Nat} (io:O2I C E f1) (im:MedI C E f1 f2) (S:zc0 E cs v) (hx:SlX h0 E.es x (G.map cs) R) (hc:zdm C v c f h0) {p:AVal} {n:Int} (ho:Owns h0 h [.box p [.int .i64 n]]) {i:Nat} (hi:0<i) (hi2:i+1<G.length) (hl:G.length<4611686018427387904) {Q:zQ}
  (hq: ∀ (m:Nat) (n':Int) h',i-1 <= m->m <= i+1->Owns h0 h' [.box p [.int .i64 n']]->Q (.int .i64 (m:Int)) h'):zdp.cps C E f2 x (.int .i64 (i:Int)) p f h Q:=by
 have e1:V.bin .sub (.int .i64 (i:Int)) (.int .i64 1)=some (.int .i64 ((i-1:Nat):Int)):=by
  rw [V.zgt,wrap_i64 (by omega) (by omega)];congr 2;omega
 simp -dsimp only [zdp.cps,zdp.k1,e1,add1 (show i<4611686018427387904 by omega),B.zd]
 exact im _ _ _ _ _ _ _ _ (zha io S hx hc ho (by omega) (by omega) hi2 fun m n' h' hm o'=>zbu (hq m n' h' (by omega) (by omega) o'))
theorem zh7 (S:zc0 E cs v) (hl:G.length<4611686018427387904) (ho:Rw E cs h0 h x G R) {a b:Nat} (hab:a<b) (hb:b <= G.length) {Q:zQ} (hq: ∀ h' G',zcg a b G G'->Rw E cs h0 h' x G' R->Q (.tup []) h'):
  zck.cps C E x (.int .i64 (a:Int)) (.int .i64 (b:Int)) f h Q:=by
 have e1:V.bin .sub (.int .i64 (b:Int)) (.int .i64 1)=some (.int .i64 ((b-1:Nat):Int)):=by
  rw [V.zgt,wrap_i64 (by omega) (by omega)];congr 2;omega
 simp -dsimp only [zck.cps,e1,B.zd]
 refine zw.intro (fun t vs hh=> ∃ (i j:Nat) (G':List X),t=j /\ vs=[.int .i64 (i:Int),.int .i64 (j:Int)] /\ a <= i /\ j<b /\ zcg a b G G' /\ Rw E cs h0 hh x G' R) (b-1) ?_ ⟨a,b-1,G,rfl,rfl,Nat.le_refl _,by omega,zcg.refl _ _ _,ho⟩
 rintro Y j vs hh ⟨i,_,G',rfl,rfl,hi,hj,W,o⟩ hY
 simp -dsimp only [zck.l2,zck.k1,lssN,B.zd]
 have hlen:=W.len
 refine B.zr (fun hc=> ?_) (fun hc=>hq hh G' W o)
 rw [decide_eq_true_eq] at hc
 have li:i<G'.length:=by omega
 have lj:j<G'.length:=by omega
 simp -dsimp only [o.idx lj,B.zd]
 refine o.ld S (List.getElem?_eq_getElem lj) ?_
 simp -dsimp only [o.idx li,B.zd]
 refine o.ld S (List.getElem?_eq_getElem li) ?_
 have ij:=o.idx lj
 refine o.st S (t:=G'[j]) li fun h1 o1=> ?_
 simp -dsimp only [ij,B.zd]
 refine o1.st S (t:=G'[i]) (by simpa using lj) fun h2 o2=> ?_
 have e2:V.bin .sub (.int .i64 (j:Int)) (.int .i64 1)=some (.int .i64 ((j-1:Nat):Int)):=by
  rw [V.zgt,wrap_i64 (by omega) (by omega)];congr 2;omega
 simp -dsimp only [add1 (show i<4611686018427387904 by omega),e2,B.zd]
 exact hY (j-1) _ _ (by omega) ⟨i+1,j-1,_,rfl,rfl,by omega,by omega,W.trans (zds li lj hi (by omega) (by omega) hj),o2⟩
theorem quo4 {a:Nat} (h:a<4611686018427387904):V.bin .quo (.int .i64 (a:Int)) (.int .i64 4)=some (.int .i64 ((a / 4:Nat):Int)):=by
 rw [V.zkr _ _ _ (by omega),show (a:Int).tdiv 4=((a / 4:Nat):Int) from rfl,wrap_i64 (by omega) (by omega)]
theorem mulN {a b:Nat} (h:a*b<4611686018427387904):V.bin .mul (.int .i64 (a:Int)) (.int .i64 (b:Int))=some (.int .i64 ((a*b:Nat):Int)):=by
 rw [V.bin_mul,show (a:Int)*(b:Int)=((a*b:Nat):Int) by simp,wrap_i64 (by omega) (by omega)]
theorem zh3 {a b:Nat} (h:a+b<4611686018427387904):V.bin .add (.int .i64 (a:Int)) (.int .i64 (b:Int))=some (.int .i64 ((a+b:Nat):Int)):=by
 rw [V.ze8,show (a:Int)+(b:Int)=((a+b:Nat):Int) by simp,wrap_i64 (by omega) (by omega)]
theorem zfq {a b:Nat} (h:b <= a) (h2:a<4611686018427387904):V.bin .sub (.int .i64 (a:Int)) (.int .i64 (b:Int))=some (.int .i64 ((a-b:Nat):Int)):=by
 rw [V.zgt,show (a:Int)-(b:Int)=((a-b:Nat):Int) by omega,wrap_i64 (by omega) (by omega)]
theorem geqN {a b:Nat}:V.bin .geq (.int .i64 (a:Int)) (.int .i64 (b:Int))=some (.bool (decide (b <= a))):=by rw [V.zgb];congr 3;exact propext (by omega)
theorem zil {f1 f2 f3:Nat} (io:O2I C E f1) (im:MedI C E f1 f2) (ia:AdjI C E f2 f3) (S:zc0 E cs v) (hx:SlX h E.es x (G.map cs) R) (h0le:h0.le h) (hc:zdm C v c f h0) (hl:G.length <= 100000000) {a b:Nat} (hab:a+8 <= b) (hb:b <= G.length) {Q:zQ}
  (hq: ∀ (m:Nat) (hint:Int) h',a <= m->m<b->h.le h'->Q (.tup [.int .i64 (m:Int),.int .i64 hint]) h'):zo.cps C E f2 f3 x (.int .i64 (a:Int)) (.int .i64 (b:Int)) f h Q:=by
 have e1:=zfq (a:=b) (b:=a) (by omega) (by omega)
 simp -dsimp only [zo.cps,e1,B.zd]
 intro id hid
 have o:=(Owns.start h).zpw hid [.int .i64 0]
 simp only [List.nil_append] at o
 have q4:=quo4 (a:=b-a) (by omega)
 have m1:=mulN (a:=(b-a) / 4) (b:=1) (by omega)
 have m2:=mulN (a:=(b-a) / 4) (b:=2) (by omega)
 have m3:=mulN (a:=(b-a) / 4) (b:=3) (by omega)
 have a1:=zh3 (a:=a) (b:=(b-a) / 4*1) (by omega)
 have a2:=zh3 (a:=a) (b:=(b-a) / 4*2) (by omega)
 have a3:=zh3 (a:=a) (b:=(b-a) / 4*3) (by omega)
 have g8:V.bin .geq (.int .i64 ((b-a:Nat):Int)) (.int .i64 8)=some (.bool true):=by rw [V.zgb,decide_eq_true (by omega)]
 have hc':zdm C v c f h:=⟨fun h2 s t K hle hk=>hc.call h2 s t K (za.le_trans h0le hle) hk⟩
 simp -dsimp only [zo.k6,zo.k5,zo.k4,zo.k3,q4,B.zd]
 have m1':V.bin .mul (.int .i64 (((b-a) / 4:Nat):Int)) (.int .i64 1)=some (.int .i64 (((b-a) / 4*1:Nat):Int)):=m1
 have m2':V.bin .mul (.int .i64 (((b-a) / 4:Nat):Int)) (.int .i64 2)=some (.int .i64 (((b-a) / 4*2:Nat):Int)):=m2
 have m3':V.bin .mul (.int .i64 (((b-a) / 4:Nat):Int)) (.int .i64 3)=some (.int .i64 (((b-a) / 4*3:Nat):Int)):=m3
 simp -dsimp only [q4,m1',m2',m3',a1,a2,a3,g8,B.cond_true,zo.k5,zo.k4,zo.k3,zo.k2,B.zd]
 have fin: ∀ (m:Nat) (n':Int) h',a <= m->m<b->Owns h h' [.box (.ptr id 0 0) [.int .i64 n']]->zo.k1 C E f2 f3 Q (.ptr id 0 0) (.int .i64 (m:Int)) h':=fun m n' h' k1 k2 o'=>by
  obtain ⟨id',e,hb'⟩:=o'.zom 0 rfl
  cases e
  have ld:A.ldv h' (.ptr id 0 0)=some (.int .i64 n'):=by rw [zk2 hb'];rfl
  simp -dsimp only [zo.k1,B.ze4,ld,V.zfy,B.zd]
  refine B.zr (fun _=>hq m _ h' k1 k2 o'.le) (fun _=> ?_)
  refine B.zr (fun _=>hq m _ h' k1 k2 o'.le) (fun _=>hq m _ h' k1 k2 o'.le)
 have g50:V.bin .geq (.int .i64 ((b-a:Nat):Int)) (.int .i64 50)=some (.bool (decide (50 <= b-a))):=geqN (b:=50)
 simp -dsimp only [g50,B.zd]
 refine B.zr (fun hd=> ?_) (fun hd=> ?_)
 ·rw [decide_eq_true_eq] at hd
  refine ia _ _ _ _ _ _ (zes io im S hx hc' o (by omega) (by omega) (by omega) fun i n1 h1 i1 i2 o1=>zbu ?_)
  refine ia _ _ _ _ _ _ (zes io im S hx hc' o1 (by omega) (by omega) (by omega) fun j n2 h2 j1 j2 o2=>zbu ?_)
  refine ia _ _ _ _ _ _ (zes io im S hx hc' o2 (by omega) (by omega) (by omega) fun k n3 h3 k1 k2 o3=>zbu ?_)
  refine im _ _ _ _ _ _ _ _ (zha io S hx hc' o3 (by omega) (by omega) (by omega) fun m n4 h4 hm o4=>zbu ?_)
  exact fin m n4 h4 (by omega) (by omega) o4
 ·refine im _ _ _ _ _ _ _ _ (zha io S hx hc' o (by omega) (by omega) (by omega) fun m n4 h4 hm o4=>zbu ?_)
  exact fin m n4 h4 (by omega) (by omega) o4
end
end Go.Ab
namespace Go.Ab
@[simp] def zc6.k1 (C:CSem) (E:zz) (C0:CSem) (fL:Nat) (Q:zQ) (Y1:zL) (Y2:zL) (v0 v1 v2 v3 v8 v9:AVal) (h:za):Prop:=
 B.pv (V.bin .gtr v9 v1) fun v20=>
  B.gd h v20 true (fun K=>K v0 h) fun v23 h=>
  B.gd h v20 true (fun K=>K v9 h) fun v24 h=>
  B.gd h v20 true (fun K=>B.pv (V.idxS E.es v23 v24) fun v=>K v h) fun v25 h=>
  B.gd h v20 true (fun K=>E.ld h v25 fun v=>K v h) fun v26 h=>
  B.gd h v20 true (fun K=>K v0 h) fun v27 h=>
  B.gd h v20 true (fun K=>K v9 h) fun v28 h=>
  B.gd h v20 true (fun K=>B.pv (V.bin .sub v28 (.int .i64 1)) fun v=>K v h) fun v29 h=>
  B.gd h v20 true (fun K=>B.pv (V.idxS E.es v27 v29) fun v=>K v h) fun v30 h=>
  B.gd h v20 true (fun K=>E.ld h v30 fun v=>K v h) fun v31 h=>
  B.gd h v20 true (fun K=>B.call C0 fL [v26,v31] h K) fun v33 h=>
  B.pick v20 v33 (.bool false) fun v34=>
  B.cond v34
  (B.pv (V.bin .sub v9 (.int .i64 1)) fun v41=>
  B.pv (V.bin .sub v9 (.int .i64 1)) fun v44=>
  B.pv (V.idxS E.es v0 v44) fun v45=>
  E.ld h v45 fun v46=>
  B.pv (V.idxS E.es v0 v9) fun v49=>
  E.ld h v49 fun v50=>
  B.pv (V.idxS E.es v0 v9) fun v51=>
  E.st h v51 v46 fun h=>
  B.pv (V.idxS E.es v0 v41) fun v52=>
  E.st h v52 v50 fun h=>
  B.pv (V.bin .sub v9 (.int .i64 1)) fun v36=>
  Y2 [v36] h)
  (B.pv (V.bin .add v8 (.int .i64 1)) fun v16=>
  Y1 [v16] h)
@[simp] def zc6.l2 (C:CSem) (E:zz) (C0:CSem) (fL:Nat) (Q:zQ) (Y1:zL) (v0 v1 v2 v3 v8:AVal):zG
 | [v9],h,Y2=>zc6.k1 C E C0 fL Q Y1 Y2 v0 v1 v2 v3 v8 v9 h
 | _,_,_=>False
@[simp] def zc6.l3 (C:CSem) (E:zz) (C0:CSem) (fL:Nat) (Q:zQ) (v0 v1 v2 v3:AVal):zG
 | [v8],h,Y1=>B.pv (V.bin .lss v8 v2) fun v14=>
  B.cond v14
  (zw (zc6.l2 C E C0 fL Q Y1 v0 v1 v2 v3 v8) [v8] h)
  (Q (.tup []) h)
 | _,_,_=>False
@[simp] def zc6.cps (C:CSem) (E:zz) (C0:CSem) (fL:Nat) (v0 v1 v2 v3:AVal) (h:za) (Q:zQ):Prop:=
 B.pv (V.bin .add v1 (.int .i64 1)) fun v11=>
  zw (zc6.l3 C E C0 fL Q v0 v1 v2 v3) [v11] h
@[simp] def zbm.k1 (C:CSem) (E:zz) (C0:CSem) (fL:Nat) (f1 f2 f3 f4 f5 f6 f7 f8 f9:Nat) (Q:zQ) (Y1:zL) (v0 v1 v2 v3 v4 v10 v11 v12 v13:AVal) (h:za):Prop:=
 B.pv (V.bin .gtr v1 (.int .i64 0)) fun v82=>
  B.gd h v82 true (fun K=>K v0 h) fun v85 h=>
  B.gd h v82 true (fun K=>K v1 h) fun v86 h=>
  B.gd h v82 true (fun K=>B.pv (V.bin .sub v86 (.int .i64 1)) fun v=>K v h) fun v87 h=>
  B.gd h v82 true (fun K=>B.pv (V.idxS E.es v85 v87) fun v=>K v h) fun v88 h=>
  B.gd h v82 true (fun K=>E.ld h v88 fun v=>K v h) fun v89 h=>
  B.gd h v82 true (fun K=>K v0 h) fun v90 h=>
  B.gd h v82 true (fun K=>K v13 h) fun v91 h=>
  B.gd h v82 true (fun K=>B.pv (V.idxS E.es v90 v91) fun v=>K v h) fun v92 h=>
  B.gd h v82 true (fun K=>E.ld h v92 fun v=>K v h) fun v93 h=>
  B.gd h v82 true (fun K=>B.call C0 fL [v89,v93] h K) fun v95 h=>
  B.gd h v82 true (fun K=>B.pv (V.un .not v95) fun v=>K v h) fun v96 h=>
  B.pick v82 v96 (.bool false) fun v97=>
  B.cond v97
  (B.call C f1 [v0,v1,v2,v13,v4] h fun v103 h=>
  Y1 [v103,v2,v3,v10,v11] h)
  (B.call C f2 [v0,v1,v2,v13,v4] h fun v111 h=>
  B.pv (V.ext 0 v111) fun v112=>
  B.pv (V.ext 1 v111) fun v113=>
  B.pv (V.bin .sub v112 v1) fun v117=>
  B.pv (V.bin .sub v2 v112) fun v120=>
  B.pv (V.bin .quo v12 (.int .i64 8)) fun v122=>
  B.pv (V.bin .lss v117 v120) fun v125=>
  B.cond v125
  (B.pv (V.bin .geq v117 v122) fun v128=>
  B.call C f3 [v0,v1,v112,v3,v4] h fun v134 h=>
  B.pv (V.bin .add v112 (.int .i64 1)) fun v136=>
  Y1 [v136,v2,v3,v128,v113] h)
  (B.pv (V.bin .geq v120 v122) fun v139=>
  B.pv (V.bin .add v112 (.int .i64 1)) fun v142=>
  B.call C f3 [v0,v142,v2,v3,v4] h fun v146 h=>
  Y1 [v1,v112,v3,v139,v113] h))
@[simp] def zbm.k2 (C:CSem) (E:zz) (C0:CSem) (fL:Nat) (f1 f2 f3 f4 f5 f6 f7 f8 f9:Nat) (Q:zQ) (Y1:zL) (v0 v1 v2 v3 v4 v10 v11 v12 v13 v14:AVal) (h:za):Prop:=
 B.gd h v10 true (fun K=>K v11 h) fun v70 h=>
  B.pick v10 v70 (.bool false) fun v71=>
  B.gd h v71 true (fun K=>K v14 h) fun v73 h=>
  B.gd h v71 true (fun K=>B.pv (V.bin .eql v73 (.int .i64 1)) fun v=>K v h) fun v74 h=>
  B.pick v71 v74 (.bool false) fun v75=>
  B.cond v75
  (B.call C f4 [v0,v1,v2,v4] h fun v80 h=>
  B.cond v80
  (Q (.tup []) h)
  (zbm.k1 C E C0 fL f1 f2 f3 f4 f5 f6 f7 f8 f9 Q Y1 v0 v1 v2 v3 v4 v10 v11 v12 v13 h))
  (zbm.k1 C E C0 fL f1 f2 f3 f4 f5 f6 f7 f8 f9 Q Y1 v0 v1 v2 v3 v4 v10 v11 v12 v13 h)
@[simp] def zbm.k3 (C:CSem) (E:zz) (C0:CSem) (fL:Nat) (f1 f2 f3 f4 f5 f6 f7 f8 f9:Nat) (Q:zQ) (Y1:zL) (v0 v1 v2 v3 v4 v10 v11 v12 v13 v14:AVal) (h:za):Prop:=
 B.pv (V.bin .eql v14 (.int .i64 2)) fun v56=>
  B.cond v56
  (B.call C f5 [v0,v1,v2,v4] h fun v61 h=>
  B.pv (V.bin .sub v2 (.int .i64 1)) fun v63=>
  B.pv (V.bin .sub v13 v1) fun v66=>
  B.pv (V.bin .sub v63 v66) fun v67=>
  zbm.k2 C E C0 fL f1 f2 f3 f4 f5 f6 f7 f8 f9 Q Y1 v0 v1 v2 v3 v4 v10 v11 v12 v67 (.int .i64 1) h)
  (zbm.k2 C E C0 fL f1 f2 f3 f4 f5 f6 f7 f8 f9 Q Y1 v0 v1 v2 v3 v4 v10 v11 v12 v13 v14 h)
@[simp] def zbm.k4 (C:CSem) (E:zz) (C0:CSem) (fL:Nat) (f1 f2 f3 f4 f5 f6 f7 f8 f9:Nat) (Q:zQ) (Y1:zL) (v0 v1 v2 v3 v4 v10 v11 v12:AVal) (h:za):Prop:=
 B.call C f6 [v0,v1,v2,v4] h fun v52 h=>
  B.pv (V.ext 0 v52) fun v53=>
  B.pv (V.ext 1 v52) fun v54=>
  zbm.k3 C E C0 fL f1 f2 f3 f4 f5 f6 f7 f8 f9 Q Y1 v0 v1 v2 v3 v4 v10 v11 v12 v53 v54 h
@[simp] def zbm.k5 (C:CSem) (E:zz) (C0:CSem) (fL:Nat) (f1 f2 f3 f4 f5 f6 f7 f8 f9:Nat) (Q:zQ) (Y1:zL) (v0 v1 v2 v3 v4 v10 v11 v12:AVal) (h:za):Prop:=
 B.pv (V.un .not v10) fun v39=>
  B.cond v39
  (B.call C f7 [v0,v1,v2,v4] h fun v44 h=>
  B.pv (V.bin .sub v3 (.int .i64 1)) fun v46=>
  zbm.k4 C E C0 fL f1 f2 f3 f4 f5 f6 f7 f8 f9 Q Y1 v0 v1 v2 v46 v4 v10 v11 v12 h)
  (zbm.k4 C E C0 fL f1 f2 f3 f4 f5 f6 f7 f8 f9 Q Y1 v0 v1 v2 v3 v4 v10 v11 v12 h)
@[simp] def zbm.k6 (C:CSem) (E:zz) (C0:CSem) (fL:Nat) (f1 f2 f3 f4 f5 f6 f7 f8 f9:Nat) (Q:zQ) (Y1:zL) (v0 v1 v2 v3 v4 v10 v11 v12:AVal) (h:za):Prop:=
 B.pv (V.bin .eql v3 (.int .i64 0)) fun v32=>
  B.cond v32
  (B.call C f8 [v0,v1,v2,v4] h fun v37 h=>
  Q (.tup []) h)
  (zbm.k5 C E C0 fL f1 f2 f3 f4 f5 f6 f7 f8 f9 Q Y1 v0 v1 v2 v3 v4 v10 v11 v12 h)
@[simp] def zbm.k7 (C:CSem) (E:zz) (C0:CSem) (fL:Nat) (f1 f2 f3 f4 f5 f6 f7 f8 f9:Nat) (Q:zQ) (Y1:zL) (v0 v1 v2 v3 v4 v10 v11 v12:AVal) (h:za):Prop:=
 B.pv (V.bin .leq v12 (.int .i64 12)) fun v25=>
  B.cond v25
  (B.call C f9 [v0,v1,v2,v4] h fun v30 h=>
  Q (.tup []) h)
  (zbm.k6 C E C0 fL f1 f2 f3 f4 f5 f6 f7 f8 f9 Q Y1 v0 v1 v2 v3 v4 v10 v11 v12 h)
@[simp] def zbm.l8 (C:CSem) (E:zz) (C0:CSem) (fL:Nat) (f1 f2 f3 f4 f5 f6 f7 f8 f9:Nat) (Q:zQ) (v0 v4:AVal):zG
 | [v1,v2,v3,v10,v11],h,Y1=>B.pv (V.bin .sub v2 v1) fun v23=>
  zbm.k7 C E C0 fL f1 f2 f3 f4 f5 f6 f7 f8 f9 Q Y1 v0 v1 v2 v3 v4 v10 v11 v23 h
 | _,_,_=>False
@[simp] def zbm.cps (C:CSem) (E:zz) (C0:CSem) (fL:Nat) (f1 f2 f3 f4 f5 f6 f7 f8 f9:Nat) (v0 v1 v2 v3 v4:AVal) (h:za) (Q:zQ):Prop:=
 zw (zbm.l8 C E C0 fL f1 f2 f3 f4 f5 f6 f7 f8 f9 Q v0 v4) [v1,v2,v3,(.bool true),(.bool true)] h
@[simp] def zdf.k1 (C:CSem) (E:zz) (C0:CSem) (fL:Nat) (f1:Nat) (Q:zQ) (Y1:zL) (v0 v3 v8 v9 v12:AVal) (h:za):Prop:=
 B.pv (V.bin .geq v12 (.int .i64 0)) fun v33=>
  B.cond v33
  (B.pv (V.bin .add v8 v12) fun v41=>
  B.pv (V.bin .add v8 v12) fun v45=>
  B.pv (V.idxS E.es v0 v45) fun v46=>
  E.ld h v46 fun v47=>
  B.pv (V.idxS E.es v0 v8) fun v50=>
  E.ld h v50 fun v51=>
  B.pv (V.idxS E.es v0 v8) fun v52=>
  E.st h v52 v47 fun h=>
  B.pv (V.idxS E.es v0 v41) fun v53=>
  E.st h v53 v51 fun h=>
  B.call C f1 [v0,v9,v12,v8,v3] h fun v59 h=>
  B.pv (V.bin .sub v12 (.int .i64 1)) fun v35=>
  Y1 [v35] h)
  (Q (.tup []) h)
@[simp] def zdf.l2 (C:CSem) (E:zz) (C0:CSem) (fL:Nat) (f1:Nat) (Q:zQ) (v0 v3 v8 v9:AVal):zG
 | [v12],h,Y1=>zdf.k1 C E C0 fL f1 Q Y1 v0 v3 v8 v9 v12 h
 | _,_,_=>False
@[simp] def zdf.k3 (C:CSem) (E:zz) (C0:CSem) (fL:Nat) (f1:Nat) (Q:zQ) (Y2:zL) (v0 v3 v8 v9 v10 v11:AVal) (h:za):Prop:=
 B.pv (V.bin .geq v11 (.int .i64 0)) fun v21=>
  B.cond v21
  (B.call C f1 [v0,v11,v10,v8,v3] h fun v29 h=>
  B.pv (V.bin .sub v11 (.int .i64 1)) fun v23=>
  Y2 [v23] h)
  (B.pv (V.bin .sub v10 (.int .i64 1)) fun v31=>
  zw (zdf.l2 C E C0 fL f1 Q v0 v3 v8 v9) [v31] h)
@[simp] def zdf.l4 (C:CSem) (E:zz) (C0:CSem) (fL:Nat) (f1:Nat) (Q:zQ) (v0 v3 v8 v9 v10:AVal):zG
 | [v11],h,Y2=>zdf.k3 C E C0 fL f1 Q Y2 v0 v3 v8 v9 v10 v11 h
 | _,_,_=>False
@[simp] def zdf.k5 (C:CSem) (E:zz) (C0:CSem) (fL:Nat) (f1:Nat) (Q:zQ) (v0 v3 v8 v9 v10:AVal) (h:za):Prop:=
 B.pv (V.bin .sub v10 (.int .i64 1)) fun v18=>
  B.pv (V.bin .quo v18 (.int .i64 2)) fun v19=>
  zw (zdf.l4 C E C0 fL f1 Q v0 v3 v8 v9 v10) [v19] h
@[simp] def zdf.cps (C:CSem) (E:zz) (C0:CSem) (fL:Nat) (f1:Nat) (v0 v1 v2 v3:AVal) (h:za) (Q:zQ):Prop:=
 B.pv (V.bin .sub v2 v1) fun v16=>
  zdf.k5 C E C0 fL f1 Q v0 v3 v1 (.int .i64 0) v16 h
@[simp] def zbc.k1 (C:CSem) (E:zz) (C0:CSem) (fL:Nat) (f1 f2:Nat) (Q:zQ) (Y1:zL) (v0 v1 v8 v9 v10 v11 v12:AVal) (h:za):Prop:=
 B.pv (V.bin .add v1 v12) fun v54=>
  B.pv (V.bin .add v1 v12) fun v58=>
  B.pv (V.idxS E.es v0 v58) fun v59=>
  E.ld h v59 fun v60=>
  B.pv (V.idxS E.es v0 v11) fun v63=>
  E.ld h v63 fun v64=>
  B.pv (V.idxS E.es v0 v11) fun v65=>
  E.st h v65 v60 fun h=>
  B.pv (V.idxS E.es v0 v54) fun v66=>
  E.st h v66 v64 fun h=>
  B.pv (V.bin .add v11 (.int .i64 1)) fun v37=>
  Y1 [v37] h
@[simp] def zbc.k2 (C:CSem) (E:zz) (C0:CSem) (fL:Nat) (f1 f2:Nat) (Q:zQ) (Y1:zL) (v0 v1 v8 v9 v10 v11 v12:AVal) (h:za):Prop:=
 B.pv (V.bin .geq v12 v8) fun v45=>
  B.cond v45
  (B.pv (V.bin .sub v12 v8) fun v48=>
  zbc.k1 C E C0 fL f1 f2 Q Y1 v0 v1 v8 v9 v10 v11 v48 h)
  (zbc.k1 C E C0 fL f1 f2 Q Y1 v0 v1 v8 v9 v10 v11 v12 h)
@[simp] def zbc.k3 (C:CSem) (E:zz) (C0:CSem) (fL:Nat) (f1 f2:Nat) (Q:zQ) (Y1:zL) (v0 v1 v8 v9 v10 v11:AVal) (h:za):Prop:=
 B.call C0 f1 [v9] h fun v38 h=>
  B.pv (V.bin .sub v10 (.int .u64 1)) fun v40=>
  B.pv (V.bin .and v38 v40) fun v41=>
  B.pv (V.toInt .i64 v41) fun v42=>
  zbc.k2 C E C0 fL f1 f2 Q Y1 v0 v1 v8 v9 v10 v11 v42 h
@[simp] def zbc.k4 (C:CSem) (E:zz) (C0:CSem) (fL:Nat) (f1 f2:Nat) (Q:zQ) (Y1:zL) (v0 v1 v8 v9 v10 v11:AVal) (h:za):Prop:=
 B.pv (V.bin .quo v8 (.int .i64 4)) fun v31=>
  B.pv (V.bin .mul v31 (.int .i64 2)) fun v32=>
  B.pv (V.bin .add v1 v32) fun v33=>
  B.pv (V.bin .add v33 (.int .i64 1)) fun v34=>
  B.pv (V.bin .leq v11 v34) fun v35=>
  B.cond v35
  (zbc.k3 C E C0 fL f1 f2 Q Y1 v0 v1 v8 v9 v10 v11 h)
  (Q (.tup []) h)
@[simp] def zbc.l5 (C:CSem) (E:zz) (C0:CSem) (fL:Nat) (f1 f2:Nat) (Q:zQ) (v0 v1 v8 v9 v10:AVal):zG
 | [v11],h,Y1=>zbc.k4 C E C0 fL f1 f2 Q Y1 v0 v1 v8 v9 v10 v11 h
 | _,_,_=>False
@[simp] def zbc.k6 (C:CSem) (E:zz) (C0:CSem) (fL:Nat) (f1 f2:Nat) (Q:zQ) (v0 v1 v8 v9 v10:AVal) (h:za):Prop:=
 B.pv (V.bin .quo v8 (.int .i64 4)) fun v24=>
  B.pv (V.bin .mul v24 (.int .i64 2)) fun v25=>
  B.pv (V.bin .add v1 v25) fun v26=>
  B.pv (V.bin .sub v26 (.int .i64 1)) fun v27=>
  zw (zbc.l5 C E C0 fL f1 f2 Q v0 v1 v8 v9 v10) [v27] h
@[simp] def zbc.k7 (C:CSem) (E:zz) (C0:CSem) (fL:Nat) (f1 f2:Nat) (Q:zQ) (v0 v1 v8:AVal) (h:za):Prop:=
 B.pv (V.toInt .u64 v8) fun v19=>
  B.newO h (some [.int .u64 0]) fun i9 h=>
  B.st h (.ptr i9 0 0) v19 fun h=>
  B.call C0 f2 [v8] h fun v21 h=>
  zbc.k6 C E C0 fL f1 f2 Q v0 v1 v8 (.ptr i9 0 0) v21 h
@[simp] def zbc.k8 (C:CSem) (E:zz) (C0:CSem) (fL:Nat) (f1 f2:Nat) (Q:zQ) (v0 v1 v2:AVal) (h:za):Prop:=
 B.pv (V.bin .sub v2 v1) fun v15=>
  B.pv (V.bin .geq v15 (.int .i64 8)) fun v17=>
  B.cond v17 (zbc.k7 C E C0 fL f1 f2 Q v0 v1 v15 h) (Q (.tup []) h)
@[simp] def zbc.cps (C:CSem) (E:zz) (C0:CSem) (fL:Nat) (f1 f2:Nat) (v0 v1 v2 v3:AVal) (h:za) (Q:zQ):Prop:=
 zbc.k8 C E C0 fL f1 f2 Q v0 v1 v2 h
@[simp] def zbo.k1 (C:CSem) (E:zz) (C0:CSem) (fL:Nat) (f1 f2:Nat) (Q:zQ) (v11 v13:AVal) (h:za):Prop:=
 B.ld h v11 fun v55=>
  B.pv (V.bin .eql v55 (.int .i64 0)) fun v58=>
  B.cond v58
  (Q (.tup [v13,(.int .i64 1)]) h)
  (B.pv (V.bin .eql v55 (.int .i64 12)) fun v61=>
  B.cond v61
  (Q (.tup [v13,(.int .i64 2)]) h)
  (Q (.tup [v13,(.int .i64 0)]) h))
@[simp] def zbo.k2 (C:CSem) (E:zz) (C0:CSem) (fL:Nat) (f1 f2:Nat) (Q:zQ) (v0 v3 v10 v11 v12 v13 v14:AVal) (h:za):Prop:=
 B.pv (V.bin .geq v10 (.int .i64 50)) fun v36=>
  B.cond v36
  (B.call C f2 [v0,v12,v11,v3] h fun v40 h=>
  B.call C f2 [v0,v13,v11,v3] h fun v44 h=>
  B.call C f2 [v0,v14,v11,v3] h fun v48 h=>
  B.call C f1 [v0,v40,v44,v48,v11,v3] h fun v54 h=>
  zbo.k1 C E C0 fL f1 f2 Q v11 v54 h)
  (B.call C f1 [v0,v12,v13,v14,v11,v3] h fun v54 h=>
  zbo.k1 C E C0 fL f1 f2 Q v11 v54 h)
@[simp] def zbo.k3 (C:CSem) (E:zz) (C0:CSem) (fL:Nat) (f1 f2:Nat) (Q:zQ) (v0 v3 v10 v11 v12 v13 v14:AVal) (h:za):Prop:=
 B.pv (V.bin .geq v10 (.int .i64 8)) fun v34=>
  B.cond v34 (zbo.k2 C E C0 fL f1 f2 Q v0 v3 v10 v11 v12 v13 v14 h) (zbo.k1 C E C0 fL f1 f2 Q v11 v13 h)
@[simp] def zbo.k4 (C:CSem) (E:zz) (C0:CSem) (fL:Nat) (f1 f2:Nat) (Q:zQ) (v0 v1 v3 v10 v11 v12 v13:AVal) (h:za):Prop:=
 B.pv (V.bin .quo v10 (.int .i64 4)) fun v30=>
  B.pv (V.bin .mul v30 (.int .i64 3)) fun v31=>
  B.pv (V.bin .add v1 v31) fun v32=>
  zbo.k3 C E C0 fL f1 f2 Q v0 v3 v10 v11 v12 v13 v32 h
@[simp] def zbo.k5 (C:CSem) (E:zz) (C0:CSem) (fL:Nat) (f1 f2:Nat) (Q:zQ) (v0 v1 v3 v10 v11 v12:AVal) (h:za):Prop:=
 B.pv (V.bin .quo v10 (.int .i64 4)) fun v25=>
  B.pv (V.bin .mul v25 (.int .i64 2)) fun v26=>
  B.pv (V.bin .add v1 v26) fun v27=>
  zbo.k4 C E C0 fL f1 f2 Q v0 v1 v3 v10 v11 v12 v27 h
@[simp] def zbo.k6 (C:CSem) (E:zz) (C0:CSem) (fL:Nat) (f1 f2:Nat) (Q:zQ) (v0 v1 v3 v10 v11:AVal) (h:za):Prop:=
 B.pv (V.bin .quo v10 (.int .i64 4)) fun v20=>
  B.pv (V.bin .mul v20 (.int .i64 1)) fun v21=>
  B.pv (V.bin .add v1 v21) fun v22=>
  zbo.k5 C E C0 fL f1 f2 Q v0 v1 v3 v10 v11 v22 h
@[simp] def zbo.cps (C:CSem) (E:zz) (C0:CSem) (fL:Nat) (f1 f2:Nat) (v0 v1 v2 v3:AVal) (h:za) (Q:zQ):Prop:=
 B.pv (V.bin .sub v2 v1) fun v17=>
  B.newO h (some [.int .i64 0]) fun i11 h=>
  zbo.k6 C E C0 fL f1 f2 Q v0 v1 v3 v17 (.ptr i11 0 0) h
@[simp] def zd0.k1 (C:CSem) (E:zz) (C0:CSem) (fL:Nat) (Q:zQ) (Y1:zL) (v0 v8 v9:AVal) (h:za):Prop:=
 B.pv (V.bin .lss v8 v9) fun v15=>
  B.cond v15
  (B.pv (V.idxS E.es v0 v9) fun v22=>
  E.ld h v22 fun v23=>
  B.pv (V.idxS E.es v0 v8) fun v26=>
  E.ld h v26 fun v27=>
  B.pv (V.idxS E.es v0 v8) fun v28=>
  E.st h v28 v23 fun h=>
  B.pv (V.idxS E.es v0 v9) fun v29=>
  E.st h v29 v27 fun h=>
  B.pv (V.bin .add v8 (.int .i64 1)) fun v31=>
  B.pv (V.bin .sub v9 (.int .i64 1)) fun v33=>
  Y1 [v31,v33] h)
  (Q (.tup []) h)
@[simp] def zd0.l2 (C:CSem) (E:zz) (C0:CSem) (fL:Nat) (Q:zQ) (v0:AVal):zG
 | [v8,v9],h,Y1=>zd0.k1 C E C0 fL Q Y1 v0 v8 v9 h
 | _,_,_=>False
@[simp] def zd0.cps (C:CSem) (E:zz) (C0:CSem) (fL:Nat) (v0 v1 v2 v3:AVal) (h:za) (Q:zQ):Prop:=
 B.pv (V.bin .sub v2 (.int .i64 1)) fun v12=>
  zw (zd0.l2 C E C0 fL Q v0) [v1,v12] h
@[simp] def zh.k1 (C:CSem) (E:zz) (C0:CSem) (fL:Nat) (Q:zQ) (Y1:zL) (Y2:zL) (v0 v1 v2 v3 v9 v10 v12:AVal) (h:za):Prop:=
 B.pv (V.bin .lss v12 v2) fun v109=>
  B.cond v109
  (B.pv (V.idxS E.es v0 v12) fun v115=>
  E.ld h v115 fun v116=>
  B.pv (V.bin .sub v12 (.int .i64 1)) fun v119=>
  B.pv (V.idxS E.es v0 v119) fun v120=>
  E.ld h v120 fun v121=>
  B.call C0 fL [v116,v121] h fun v123 h=>
  B.pv (V.un .not v123) fun v124=>
  B.cond v124
  (B.pv (V.bin .add v10 (.int .i64 1)) fun v18=>
  Y1 [v9,v18] h)
  (B.pv (V.bin .sub v12 (.int .i64 1)) fun v129=>
  B.pv (V.bin .sub v12 (.int .i64 1)) fun v132=>
  B.pv (V.idxS E.es v0 v132) fun v133=>
  E.ld h v133 fun v134=>
  B.pv (V.idxS E.es v0 v12) fun v137=>
  E.ld h v137 fun v138=>
  B.pv (V.idxS E.es v0 v12) fun v139=>
  E.st h v139 v134 fun h=>
  B.pv (V.idxS E.es v0 v129) fun v140=>
  E.st h v140 v138 fun h=>
  B.pv (V.bin .add v12 (.int .i64 1)) fun v111=>
  Y2 [v111] h))
  (B.pv (V.bin .add v10 (.int .i64 1)) fun v18=>
  Y1 [v9,v18] h)
@[simp] def zh.l2 (C:CSem) (E:zz) (C0:CSem) (fL:Nat) (Q:zQ) (Y1:zL) (v0 v1 v2 v3 v9 v10:AVal):zG
 | [v12],h,Y2=>zh.k1 C E C0 fL Q Y1 Y2 v0 v1 v2 v3 v9 v10 v12 h
 | _,_,_=>False
@[simp] def zh.k3 (C:CSem) (E:zz) (C0:CSem) (fL:Nat) (Q:zQ) (Y1:zL) (v0 v1 v2 v3 v9 v10:AVal) (h:za):Prop:=
 B.pv (V.bin .sub v2 v9) fun v103=>
  B.pv (V.bin .geq v103 (.int .i64 2)) fun v104=>
  B.cond v104 (B.pv (V.bin .add v9 (.int .i64 1)) fun v106=>
  zw (zh.l2 C E C0 fL Q Y1 v0 v1 v2 v3 v9 v10) [v106] h) (B.pv (V.bin .add v10 (.int .i64 1)) fun v18=>
  Y1 [v9,v18] h)
@[simp] def zh.k4 (C:CSem) (E:zz) (C0:CSem) (fL:Nat) (Q:zQ) (Y1:zL) (Y3:zL) (v0 v1 v2 v3 v9 v10 v11:AVal) (h:za):Prop:=
 B.pv (V.bin .geq v11 (.int .i64 1)) fun v69=>
  B.cond v69
  (B.pv (V.idxS E.es v0 v11) fun v75=>
  E.ld h v75 fun v76=>
  B.pv (V.bin .sub v11 (.int .i64 1)) fun v79=>
  B.pv (V.idxS E.es v0 v79) fun v80=>
  E.ld h v80 fun v81=>
  B.call C0 fL [v76,v81] h fun v83 h=>
  B.pv (V.un .not v83) fun v84=>
  B.cond v84
  (zh.k3 C E C0 fL Q Y1 v0 v1 v2 v3 v9 v10 h)
  (B.pv (V.bin .sub v11 (.int .i64 1)) fun v89=>
  B.pv (V.bin .sub v11 (.int .i64 1)) fun v92=>
  B.pv (V.idxS E.es v0 v92) fun v93=>
  E.ld h v93 fun v94=>
  B.pv (V.idxS E.es v0 v11) fun v97=>
  E.ld h v97 fun v98=>
  B.pv (V.idxS E.es v0 v11) fun v99=>
  E.st h v99 v94 fun h=>
  B.pv (V.idxS E.es v0 v89) fun v100=>
  E.st h v100 v98 fun h=>
  B.pv (V.bin .sub v11 (.int .i64 1)) fun v71=>
  Y3 [v71] h))
  (zh.k3 C E C0 fL Q Y1 v0 v1 v2 v3 v9 v10 h)
@[simp] def zh.l5 (C:CSem) (E:zz) (C0:CSem) (fL:Nat) (Q:zQ) (Y1:zL) (v0 v1 v2 v3 v9 v10:AVal):zG
 | [v11],h,Y3=>zh.k4 C E C0 fL Q Y1 Y3 v0 v1 v2 v3 v9 v10 v11 h
 | _,_,_=>False
@[simp] def zh.k6 (C:CSem) (E:zz) (C0:CSem) (fL:Nat) (Q:zQ) (Y1:zL) (v0 v1 v2 v3 v9 v10:AVal) (h:za):Prop:=
 B.pv (V.bin .sub v9 v1) fun v64=>
  B.pv (V.bin .geq v64 (.int .i64 2)) fun v65=>
  B.cond v65 (B.pv (V.bin .sub v9 (.int .i64 1)) fun v67=>
  zw (zh.l5 C E C0 fL Q Y1 v0 v1 v2 v3 v9 v10) [v67] h) (zh.k3 C E C0 fL Q Y1 v0 v1 v2 v3 v9 v10 h)
@[simp] def zh.k7 (C:CSem) (E:zz) (C0:CSem) (fL:Nat) (Q:zQ) (Y1:zL) (v0 v1 v2 v3 v9 v10:AVal) (h:za):Prop:=
 B.pv (V.bin .sub v9 (.int .i64 1)) fun v50=>
  B.pv (V.bin .sub v9 (.int .i64 1)) fun v53=>
  B.pv (V.idxS E.es v0 v53) fun v54=>
  E.ld h v54 fun v55=>
  B.pv (V.idxS E.es v0 v9) fun v58=>
  E.ld h v58 fun v59=>
  B.pv (V.idxS E.es v0 v9) fun v60=>
  E.st h v60 v55 fun h=>
  B.pv (V.idxS E.es v0 v50) fun v61=>
  E.st h v61 v59 fun h=>
  zh.k6 C E C0 fL Q Y1 v0 v1 v2 v3 v9 v10 h
@[simp] def zh.k8 (C:CSem) (E:zz) (C0:CSem) (fL:Nat) (Q:zQ) (Y1:zL) (v0 v1 v2 v3 v9 v10:AVal) (h:za):Prop:=
 B.pv (V.bin .sub v2 v1) fun v44=>
  B.pv (V.bin .lss v44 (.int .i64 50)) fun v45=>
  B.cond v45
  (Q (.bool false) h)
  (zh.k7 C E C0 fL Q Y1 v0 v1 v2 v3 v9 v10 h)
@[simp] def zh.k9 (C:CSem) (E:zz) (C0:CSem) (fL:Nat) (Q:zQ) (Y1:zL) (Y4:zL) (v0 v1 v2 v3 v9 v10:AVal) (h:za):Prop:=
 B.pv (V.bin .lss v9 v2) fun v21=>
  B.gd h v21 true (fun K=>K v0 h) fun v24 h=>
  B.gd h v21 true (fun K=>K v9 h) fun v25 h=>
  B.gd h v21 true (fun K=>B.pv (V.idxS E.es v24 v25) fun v=>K v h) fun v26 h=>
  B.gd h v21 true (fun K=>E.ld h v26 fun v=>K v h) fun v27 h=>
  B.gd h v21 true (fun K=>K v0 h) fun v28 h=>
  B.gd h v21 true (fun K=>K v9 h) fun v29 h=>
  B.gd h v21 true (fun K=>B.pv (V.bin .sub v29 (.int .i64 1)) fun v=>K v h) fun v30 h=>
  B.gd h v21 true (fun K=>B.pv (V.idxS E.es v28 v30) fun v=>K v h) fun v31 h=>
  B.gd h v21 true (fun K=>E.ld h v31 fun v=>K v h) fun v32 h=>
  B.gd h v21 true (fun K=>B.call C0 fL [v27,v32] h K) fun v34 h=>
  B.gd h v21 true (fun K=>B.pv (V.un .not v34) fun v=>K v h) fun v35 h=>
  B.pick v21 v35 (.bool false) fun v36=>
  B.cond v36
  (B.pv (V.bin .add v9 (.int .i64 1)) fun v38=>
  Y4 [v38] h)
  (B.pv (V.bin .eql v9 v2) fun v41=>
  B.cond v41
  (Q (.bool true) h)
  (zh.k8 C E C0 fL Q Y1 v0 v1 v2 v3 v9 v10 h))
@[simp] def zh.l10 (C:CSem) (E:zz) (C0:CSem) (fL:Nat) (Q:zQ) (Y1:zL) (v0 v1 v2 v3 v10:AVal):zG
 | [v9],h,Y4=>zh.k9 C E C0 fL Q Y1 Y4 v0 v1 v2 v3 v9 v10 h
 | _,_,_=>False
@[simp] def zh.k11 (C:CSem) (E:zz) (C0:CSem) (fL:Nat) (Q:zQ) (Y1:zL) (v0 v1 v2 v3 v9 v10:AVal) (h:za):Prop:=
 B.pv (V.bin .lss v10 (.int .i64 5)) fun v16=>
  B.cond v16
  (zw (zh.l10 C E C0 fL Q Y1 v0 v1 v2 v3 v10) [v9] h)
  (Q (.bool false) h)
@[simp] def zh.l12 (C:CSem) (E:zz) (C0:CSem) (fL:Nat) (Q:zQ) (v0 v1 v2 v3:AVal):zG
 | [v9,v10],h,Y1=>zh.k11 C E C0 fL Q Y1 v0 v1 v2 v3 v9 v10 h
 | _,_,_=>False
@[simp] def zh.cps (C:CSem) (E:zz) (C0:CSem) (fL:Nat) (v0 v1 v2 v3:AVal) (h:za) (Q:zQ):Prop:=
 B.pv (V.bin .add v1 (.int .i64 1)) fun v14=>
  zw (zh.l12 C E C0 fL Q v0 v1 v2 v3) [v14,(.int .i64 0)] h
@[simp] def zba.k1 (C:CSem) (E:zz) (C0:CSem) (fL:Nat) (Q:zQ) (Y1:zL) (v0 v1 v4 v11 v12:AVal) (h:za):Prop:=
 B.pv (V.bin .gtr v11 v12) fun v70=>
  B.cond v70
  (Q v11 h)
  (B.pv (V.idxS E.es v0 v12) fun v77=>
  E.ld h v77 fun v78=>
  B.pv (V.idxS E.es v0 v11) fun v81=>
  E.ld h v81 fun v82=>
  B.pv (V.idxS E.es v0 v11) fun v83=>
  E.st h v83 v78 fun h=>
  B.pv (V.idxS E.es v0 v12) fun v84=>
  E.st h v84 v82 fun h=>
  B.pv (V.bin .add v11 (.int .i64 1)) fun v86=>
  B.pv (V.bin .sub v12 (.int .i64 1)) fun v88=>
  Y1 [v86,v88] h)
@[simp] def zba.k2 (C:CSem) (E:zz) (C0:CSem) (fL:Nat) (Q:zQ) (Y1:zL) (Y2:zL) (v0 v1 v4 v11 v12:AVal) (h:za):Prop:=
 B.pv (V.bin .leq v11 v12) fun v52=>
  B.gd h v52 true (fun K=>K v0 h) fun v55 h=>
  B.gd h v52 true (fun K=>K v1 h) fun v56 h=>
  B.gd h v52 true (fun K=>B.pv (V.idxS E.es v55 v56) fun v=>K v h) fun v57 h=>
  B.gd h v52 true (fun K=>E.ld h v57 fun v=>K v h) fun v58 h=>
  B.gd h v52 true (fun K=>K v0 h) fun v59 h=>
  B.gd h v52 true (fun K=>K v12 h) fun v60 h=>
  B.gd h v52 true (fun K=>B.pv (V.idxS E.es v59 v60) fun v=>K v h) fun v61 h=>
  B.gd h v52 true (fun K=>E.ld h v61 fun v=>K v h) fun v62 h=>
  B.gd h v52 true (fun K=>B.call C0 fL [v58,v62] h K) fun v64 h=>
  B.pick v52 v64 (.bool false) fun v65=>
  B.cond v65
  (B.pv (V.bin .sub v12 (.int .i64 1)) fun v67=>
  Y2 [v67] h)
  (zba.k1 C E C0 fL Q Y1 v0 v1 v4 v11 v12 h)
@[simp] def zba.l3 (C:CSem) (E:zz) (C0:CSem) (fL:Nat) (Q:zQ) (Y1:zL) (v0 v1 v4 v11:AVal):zG
 | [v12],h,Y2=>zba.k2 C E C0 fL Q Y1 Y2 v0 v1 v4 v11 v12 h
 | _,_,_=>False
@[simp] def zba.k4 (C:CSem) (E:zz) (C0:CSem) (fL:Nat) (Q:zQ) (Y1:zL) (Y3:zL) (v0 v1 v4 v11 v12:AVal) (h:za):Prop:=
 B.pv (V.bin .leq v11 v12) fun v33=>
  B.gd h v33 true (fun K=>K v0 h) fun v36 h=>
  B.gd h v33 true (fun K=>K v1 h) fun v37 h=>
  B.gd h v33 true (fun K=>B.pv (V.idxS E.es v36 v37) fun v=>K v h) fun v38 h=>
  B.gd h v33 true (fun K=>E.ld h v38 fun v=>K v h) fun v39 h=>
  B.gd h v33 true (fun K=>K v0 h) fun v40 h=>
  B.gd h v33 true (fun K=>K v11 h) fun v41 h=>
  B.gd h v33 true (fun K=>B.pv (V.idxS E.es v40 v41) fun v=>K v h) fun v42 h=>
  B.gd h v33 true (fun K=>E.ld h v42 fun v=>K v h) fun v43 h=>
  B.gd h v33 true (fun K=>B.call C0 fL [v39,v43] h K) fun v45 h=>
  B.gd h v33 true (fun K=>B.pv (V.un .not v45) fun v=>K v h) fun v46 h=>
  B.pick v33 v46 (.bool false) fun v47=>
  B.cond v47
  (B.pv (V.bin .add v11 (.int .i64 1)) fun v49=>
  Y3 [v49] h)
  (zw (zba.l3 C E C0 fL Q Y1 v0 v1 v4 v11) [v12] h)
@[simp] def zba.l5 (C:CSem) (E:zz) (C0:CSem) (fL:Nat) (Q:zQ) (Y1:zL) (v0 v1 v4 v12:AVal):zG
 | [v11],h,Y3=>zba.k4 C E C0 fL Q Y1 Y3 v0 v1 v4 v11 v12 h
 | _,_,_=>False
@[simp] def zba.l6 (C:CSem) (E:zz) (C0:CSem) (fL:Nat) (Q:zQ) (v0 v1 v4:AVal):zG
 | [v11,v12],h,Y1=>zw (zba.l5 C E C0 fL Q Y1 v0 v1 v4 v12) [v11] h
 | _,_,_=>False
@[simp] def zba.k7 (C:CSem) (E:zz) (C0:CSem) (fL:Nat) (Q:zQ) (v0 v1 v2 v4:AVal) (h:za):Prop:=
 B.pv (V.bin .add v1 (.int .i64 1)) fun v28=>
  B.pv (V.bin .sub v2 (.int .i64 1)) fun v30=>
  zw (zba.l6 C E C0 fL Q v0 v1 v4) [v28,v30] h
@[simp] def zba.k8 (C:CSem) (E:zz) (C0:CSem) (fL:Nat) (Q:zQ) (v0 v1 v2 v3 v4:AVal) (h:za):Prop:=
 B.pv (V.idxS E.es v0 v3) fun v19=>
  E.ld h v19 fun v20=>
  B.pv (V.idxS E.es v0 v1) fun v23=>
  E.ld h v23 fun v24=>
  B.pv (V.idxS E.es v0 v1) fun v25=>
  E.st h v25 v20 fun h=>
  B.pv (V.idxS E.es v0 v3) fun v26=>
  E.st h v26 v24 fun h=>
  zba.k7 C E C0 fL Q v0 v1 v2 v4 h
@[simp] def zba.cps (C:CSem) (E:zz) (C0:CSem) (fL:Nat) (v0 v1 v2 v3 v4:AVal) (h:za) (Q:zQ):Prop:=
 zba.k8 C E C0 fL Q v0 v1 v2 v3 v4 h
@[simp] def zp.k1 (C:CSem) (E:zz) (C0:CSem) (fL:Nat) (Q:zQ) (v0 v1 v13:AVal) (h:za):Prop:=
 B.pv (V.idxS E.es v0 v1) fun v169=>
  E.ld h v169 fun v170=>
  B.pv (V.idxS E.es v0 v13) fun v173=>
  E.ld h v173 fun v174=>
  B.pv (V.idxS E.es v0 v13) fun v175=>
  E.st h v175 v170 fun h=>
  B.pv (V.idxS E.es v0 v1) fun v176=>
  E.st h v176 v174 fun h=>
  Q (.tup [v13,(.bool false)]) h
@[simp] def zp.k2 (C:CSem) (E:zz) (C0:CSem) (fL:Nat) (Q:zQ) (Y1:zL) (v0 v1 v4 v12 v13:AVal) (h:za):Prop:=
 B.pv (V.bin .gtr v12 v13) fun v144=>
  B.cond v144
  (zp.k1 C E C0 fL Q v0 v1 v13 h)
  (B.pv (V.idxS E.es v0 v13) fun v151=>
  E.ld h v151 fun v152=>
  B.pv (V.idxS E.es v0 v12) fun v155=>
  E.ld h v155 fun v156=>
  B.pv (V.idxS E.es v0 v12) fun v157=>
  E.st h v157 v152 fun h=>
  B.pv (V.idxS E.es v0 v13) fun v158=>
  E.st h v158 v156 fun h=>
  B.pv (V.bin .add v12 (.int .i64 1)) fun v160=>
  B.pv (V.bin .sub v13 (.int .i64 1)) fun v162=>
  Y1 [v160,v162] h)
@[simp] def zp.k3 (C:CSem) (E:zz) (C0:CSem) (fL:Nat) (Q:zQ) (Y1:zL) (Y2:zL) (v0 v1 v4 v12 v13:AVal) (h:za):Prop:=
 B.pv (V.bin .leq v12 v13) fun v125=>
  B.gd h v125 true (fun K=>K v0 h) fun v128 h=>
  B.gd h v125 true (fun K=>K v13 h) fun v129 h=>
  B.gd h v125 true (fun K=>B.pv (V.idxS E.es v128 v129) fun v=>K v h) fun v130 h=>
  B.gd h v125 true (fun K=>E.ld h v130 fun v=>K v h) fun v131 h=>
  B.gd h v125 true (fun K=>K v0 h) fun v132 h=>
  B.gd h v125 true (fun K=>K v1 h) fun v133 h=>
  B.gd h v125 true (fun K=>B.pv (V.idxS E.es v132 v133) fun v=>K v h) fun v134 h=>
  B.gd h v125 true (fun K=>E.ld h v134 fun v=>K v h) fun v135 h=>
  B.gd h v125 true (fun K=>B.call C0 fL [v131,v135] h K) fun v137 h=>
  B.gd h v125 true (fun K=>B.pv (V.un .not v137) fun v=>K v h) fun v138 h=>
  B.pick v125 v138 (.bool false) fun v139=>
  B.cond v139
  (B.pv (V.bin .sub v13 (.int .i64 1)) fun v141=>
  Y2 [v141] h)
  (zp.k2 C E C0 fL Q Y1 v0 v1 v4 v12 v13 h)
@[simp] def zp.l4 (C:CSem) (E:zz) (C0:CSem) (fL:Nat) (Q:zQ) (Y1:zL) (v0 v1 v4 v12:AVal):zG
 | [v13],h,Y2=>zp.k3 C E C0 fL Q Y1 Y2 v0 v1 v4 v12 v13 h
 | _,_,_=>False
@[simp] def zp.k5 (C:CSem) (E:zz) (C0:CSem) (fL:Nat) (Q:zQ) (Y1:zL) (Y3:zL) (v0 v1 v4 v12 v13:AVal) (h:za):Prop:=
 B.pv (V.bin .leq v12 v13) fun v107=>
  B.gd h v107 true (fun K=>K v0 h) fun v110 h=>
  B.gd h v107 true (fun K=>K v12 h) fun v111 h=>
  B.gd h v107 true (fun K=>B.pv (V.idxS E.es v110 v111) fun v=>K v h) fun v112 h=>
  B.gd h v107 true (fun K=>E.ld h v112 fun v=>K v h) fun v113 h=>
  B.gd h v107 true (fun K=>K v0 h) fun v114 h=>
  B.gd h v107 true (fun K=>K v1 h) fun v115 h=>
  B.gd h v107 true (fun K=>B.pv (V.idxS E.es v114 v115) fun v=>K v h) fun v116 h=>
  B.gd h v107 true (fun K=>E.ld h v116 fun v=>K v h) fun v117 h=>
  B.gd h v107 true (fun K=>B.call C0 fL [v113,v117] h K) fun v119 h=>
  B.pick v107 v119 (.bool false) fun v120=>
  B.cond v120
  (B.pv (V.bin .add v12 (.int .i64 1)) fun v122=>
  Y3 [v122] h)
  (zw (zp.l4 C E C0 fL Q Y1 v0 v1 v4 v12) [v13] h)
@[simp] def zp.l6 (C:CSem) (E:zz) (C0:CSem) (fL:Nat) (Q:zQ) (Y1:zL) (v0 v1 v4 v13:AVal):zG
 | [v12],h,Y3=>zp.k5 C E C0 fL Q Y1 Y3 v0 v1 v4 v12 v13 h
 | _,_,_=>False
@[simp] def zp.l7 (C:CSem) (E:zz) (C0:CSem) (fL:Nat) (Q:zQ) (v0 v1 v4:AVal):zG
 | [v12,v13],h,Y1=>zw (zp.l6 C E C0 fL Q Y1 v0 v1 v4 v13) [v12] h
 | _,_,_=>False
@[simp] def zp.k8 (C:CSem) (E:zz) (C0:CSem) (fL:Nat) (Q:zQ) (v0 v1 v4 v12 v13:AVal) (h:za):Prop:=
 B.pv (V.bin .add v12 (.int .i64 1)) fun v102=>
  B.pv (V.bin .sub v13 (.int .i64 1)) fun v104=>
  zw (zp.l7 C E C0 fL Q v0 v1 v4) [v102,v104] h
@[simp] def zp.k9 (C:CSem) (E:zz) (C0:CSem) (fL:Nat) (Q:zQ) (v0 v1 v4 v12 v13:AVal) (h:za):Prop:=
 B.pv (V.idxS E.es v0 v13) fun v93=>
  E.ld h v93 fun v94=>
  B.pv (V.idxS E.es v0 v12) fun v97=>
  E.ld h v97 fun v98=>
  B.pv (V.idxS E.es v0 v12) fun v99=>
  E.st h v99 v94 fun h=>
  B.pv (V.idxS E.es v0 v13) fun v100=>
  E.st h v100 v98 fun h=>
  zp.k8 C E C0 fL Q v0 v1 v4 v12 v13 h
@[simp] def zp.k10 (C:CSem) (E:zz) (C0:CSem) (fL:Nat) (Q:zQ) (v0 v1 v4 v12 v13:AVal) (h:za):Prop:=
 B.pv (V.bin .gtr v12 v13) fun v71=>
  B.cond v71
  (B.pv (V.idxS E.es v0 v1) fun v78=>
  E.ld h v78 fun v79=>
  B.pv (V.idxS E.es v0 v13) fun v82=>
  E.ld h v82 fun v83=>
  B.pv (V.idxS E.es v0 v13) fun v84=>
  E.st h v84 v79 fun h=>
  B.pv (V.idxS E.es v0 v1) fun v85=>
  E.st h v85 v83 fun h=>
  Q (.tup [v13,(.bool true)]) h)
  (zp.k9 C E C0 fL Q v0 v1 v4 v12 v13 h)
@[simp] def zp.k11 (C:CSem) (E:zz) (C0:CSem) (fL:Nat) (Q:zQ) (Y4:zL) (v0 v1 v4 v12 v13:AVal) (h:za):Prop:=
 B.pv (V.bin .leq v12 v13) fun v52=>
  B.gd h v52 true (fun K=>K v0 h) fun v55 h=>
  B.gd h v52 true (fun K=>K v13 h) fun v56 h=>
  B.gd h v52 true (fun K=>B.pv (V.idxS E.es v55 v56) fun v=>K v h) fun v57 h=>
  B.gd h v52 true (fun K=>E.ld h v57 fun v=>K v h) fun v58 h=>
  B.gd h v52 true (fun K=>K v0 h) fun v59 h=>
  B.gd h v52 true (fun K=>K v1 h) fun v60 h=>
  B.gd h v52 true (fun K=>B.pv (V.idxS E.es v59 v60) fun v=>K v h) fun v61 h=>
  B.gd h v52 true (fun K=>E.ld h v61 fun v=>K v h) fun v62 h=>
  B.gd h v52 true (fun K=>B.call C0 fL [v58,v62] h K) fun v64 h=>
  B.gd h v52 true (fun K=>B.pv (V.un .not v64) fun v=>K v h) fun v65 h=>
  B.pick v52 v65 (.bool false) fun v66=>
  B.cond v66
  (B.pv (V.bin .sub v13 (.int .i64 1)) fun v68=>
  Y4 [v68] h)
  (zp.k10 C E C0 fL Q v0 v1 v4 v12 v13 h)
@[simp] def zp.l12 (C:CSem) (E:zz) (C0:CSem) (fL:Nat) (Q:zQ) (v0 v1 v4 v12:AVal):zG
 | [v13],h,Y4=>zp.k11 C E C0 fL Q Y4 v0 v1 v4 v12 v13 h
 | _,_,_=>False
@[simp] def zp.k13 (C:CSem) (E:zz) (C0:CSem) (fL:Nat) (Q:zQ) (Y5:zL) (v0 v1 v4 v12 v13:AVal) (h:za):Prop:=
 B.pv (V.bin .leq v12 v13) fun v34=>
  B.gd h v34 true (fun K=>K v0 h) fun v37 h=>
  B.gd h v34 true (fun K=>K v12 h) fun v38 h=>
  B.gd h v34 true (fun K=>B.pv (V.idxS E.es v37 v38) fun v=>K v h) fun v39 h=>
  B.gd h v34 true (fun K=>E.ld h v39 fun v=>K v h) fun v40 h=>
  B.gd h v34 true (fun K=>K v0 h) fun v41 h=>
  B.gd h v34 true (fun K=>K v1 h) fun v42 h=>
  B.gd h v34 true (fun K=>B.pv (V.idxS E.es v41 v42) fun v=>K v h) fun v43 h=>
  B.gd h v34 true (fun K=>E.ld h v43 fun v=>K v h) fun v44 h=>
  B.gd h v34 true (fun K=>B.call C0 fL [v40,v44] h K) fun v46 h=>
  B.pick v34 v46 (.bool false) fun v47=>
  B.cond v47
  (B.pv (V.bin .add v12 (.int .i64 1)) fun v49=>
  Y5 [v49] h)
  (zw (zp.l12 C E C0 fL Q v0 v1 v4 v12) [v13] h)
@[simp] def zp.l14 (C:CSem) (E:zz) (C0:CSem) (fL:Nat) (Q:zQ) (v0 v1 v4 v13:AVal):zG
 | [v12],h,Y5=>zp.k13 C E C0 fL Q Y5 v0 v1 v4 v12 v13 h
 | _,_,_=>False
@[simp] def zp.k15 (C:CSem) (E:zz) (C0:CSem) (fL:Nat) (Q:zQ) (v0 v1 v2 v4:AVal) (h:za):Prop:=
 B.pv (V.bin .add v1 (.int .i64 1)) fun v29=>
  B.pv (V.bin .sub v2 (.int .i64 1)) fun v31=>
  zw (zp.l14 C E C0 fL Q v0 v1 v4 v31) [v29] h
@[simp] def zp.k16 (C:CSem) (E:zz) (C0:CSem) (fL:Nat) (Q:zQ) (v0 v1 v2 v3 v4:AVal) (h:za):Prop:=
 B.pv (V.idxS E.es v0 v3) fun v20=>
  E.ld h v20 fun v21=>
  B.pv (V.idxS E.es v0 v1) fun v24=>
  E.ld h v24 fun v25=>
  B.pv (V.idxS E.es v0 v1) fun v26=>
  E.st h v26 v21 fun h=>
  B.pv (V.idxS E.es v0 v3) fun v27=>
  E.st h v27 v25 fun h=>
  zp.k15 C E C0 fL Q v0 v1 v2 v4 h
@[simp] def zp.cps (C:CSem) (E:zz) (C0:CSem) (fL:Nat) (v0 v1 v2 v3 v4:AVal) (h:za) (Q:zQ):Prop:=
 zp.k16 C E C0 fL Q v0 v1 v2 v3 v4 h
@[simp] def zde.k1 (C:CSem) (E:zz) (C0:CSem) (fL:Nat) (Q:zQ) (Y1:zL) (v0 v2 v3 v4 v10 v11:AVal) (h:za):Prop:=
 B.pv (V.bin .add v3 v10) fun v47=>
  B.pv (V.idxS E.es v0 v47) fun v48=>
  E.ld h v48 fun v49=>
  B.pv (V.bin .add v3 v11) fun v53=>
  B.pv (V.idxS E.es v0 v53) fun v54=>
  E.ld h v54 fun v55=>
  B.call C0 fL [v49,v55] h fun v57 h=>
  B.pv (V.un .not v57) fun v58=>
  B.cond v58
  (Q (.tup []) h)
  (B.pv (V.bin .add v3 v10) fun v62=>
  B.pv (V.bin .add v3 v11) fun v66=>
  B.pv (V.bin .add v3 v11) fun v70=>
  B.pv (V.idxS E.es v0 v70) fun v71=>
  E.ld h v71 fun v72=>
  B.pv (V.bin .add v3 v10) fun v76=>
  B.pv (V.idxS E.es v0 v76) fun v77=>
  E.ld h v77 fun v78=>
  B.pv (V.idxS E.es v0 v62) fun v79=>
  E.st h v79 v72 fun h=>
  B.pv (V.idxS E.es v0 v66) fun v80=>
  E.st h v80 v78 fun h=>
  Y1 [v11] h)
@[simp] def zde.k2 (C:CSem) (E:zz) (C0:CSem) (fL:Nat) (Q:zQ) (Y1:zL) (v0 v2 v3 v4 v10 v11:AVal) (h:za):Prop:=
 B.pv (V.bin .add v11 (.int .i64 1)) fun v20=>
  B.pv (V.bin .lss v20 v2) fun v22=>
  B.gd h v22 true (fun K=>K v0 h) fun v25 h=>
  B.gd h v22 true (fun K=>K v3 h) fun v26 h=>
  B.gd h v22 true (fun K=>K v11 h) fun v27 h=>
  B.gd h v22 true (fun K=>B.pv (V.bin .add v26 v27) fun v=>K v h) fun v28 h=>
  B.gd h v22 true (fun K=>B.pv (V.idxS E.es v25 v28) fun v=>K v h) fun v29 h=>
  B.gd h v22 true (fun K=>E.ld h v29 fun v=>K v h) fun v30 h=>
  B.gd h v22 true (fun K=>K v0 h) fun v31 h=>
  B.gd h v22 true (fun K=>K v3 h) fun v32 h=>
  B.gd h v22 true (fun K=>K v11 h) fun v33 h=>
  B.gd h v22 true (fun K=>B.pv (V.bin .add v32 v33) fun v=>K v h) fun v34 h=>
  B.gd h v22 true (fun K=>B.pv (V.bin .add v34 (.int .i64 1)) fun v=>K v h) fun v35 h=>
  B.gd h v22 true (fun K=>B.pv (V.idxS E.es v31 v35) fun v=>K v h) fun v36 h=>
  B.gd h v22 true (fun K=>E.ld h v36 fun v=>K v h) fun v37 h=>
  B.gd h v22 true (fun K=>B.call C0 fL [v30,v37] h K) fun v39 h=>
  B.pick v22 v39 (.bool false) fun v40=>
  B.cond v40
  (B.pv (V.bin .add v11 (.int .i64 1)) fun v42=>
  zde.k1 C E C0 fL Q Y1 v0 v2 v3 v4 v10 v42 h)
  (zde.k1 C E C0 fL Q Y1 v0 v2 v3 v4 v10 v11 h)
@[simp] def zde.k3 (C:CSem) (E:zz) (C0:CSem) (fL:Nat) (Q:zQ) (Y1:zL) (v0 v2 v3 v4 v10:AVal) (h:za):Prop:=
 B.pv (V.bin .mul (.int .i64 2) v10) fun v14=>
  B.pv (V.bin .add v14 (.int .i64 1)) fun v15=>
  B.pv (V.bin .geq v15 v2) fun v18=>
  B.cond v18
  (Q (.tup []) h)
  (zde.k2 C E C0 fL Q Y1 v0 v2 v3 v4 v10 v15 h)
@[simp] def zde.l4 (C:CSem) (E:zz) (C0:CSem) (fL:Nat) (Q:zQ) (v0 v2 v3 v4:AVal):zG
 | [v10],h,Y1=>zde.k3 C E C0 fL Q Y1 v0 v2 v3 v4 v10 h
 | _,_,_=>False
@[simp] def zde.cps (C:CSem) (E:zz) (C0:CSem) (fL:Nat) (v0 v1 v2 v3 v4:AVal) (h:za) (Q:zQ):Prop:=
 zw (zde.l4 C E C0 fL Q v0 v2 v3 v4) [v1] h
@[simp] def zeh.k1 (C:CSem) (E:zz) (C0:CSem) (fL:Nat) (f1:Nat) (Q:zQ) (v0 v1 v2 v3:AVal) (h:za):Prop:=
 B.pv (V.bin .sub v1 (.int .i64 1)) fun v11=>
  B.pv (V.bin .add v1 (.int .i64 1)) fun v14=>
  B.call C f1 [v0,v11,v1,v14,v2,v3] h fun v17 h=>
  Q v17 h
@[simp] def zeh.cps (C:CSem) (E:zz) (C0:CSem) (fL:Nat) (f1:Nat) (v0 v1 v2 v3:AVal) (h:za) (Q:zQ):Prop:=
 zeh.k1 C E C0 fL f1 Q v0 v1 v2 v3 h
@[simp] def zfs.k1 (C:CSem) (E:zz) (C0:CSem) (fL:Nat) (f1:Nat) (Q:zQ) (v0 v1 v2 v3 v4 v5:AVal) (h:za):Prop:=
 B.call C f1 [v0,v1,v2,v4,v5] h fun v19 h=>
  B.pv (V.ext 0 v19) fun v20=>
  B.pv (V.ext 1 v19) fun v21=>
  B.call C f1 [v0,v21,v3,v4,v5] h fun v28 h=>
  B.pv (V.ext 0 v28) fun v29=>
  B.pv (V.ext 1 v28) fun v30=>
  B.call C f1 [v0,v20,v29,v4,v5] h fun v37 h=>
  B.pv (V.ext 0 v37) fun v38=>
  B.pv (V.ext 1 v37) fun v39=>
  Q v39 h
@[simp] def zfs.cps (C:CSem) (E:zz) (C0:CSem) (fL:Nat) (f1:Nat) (v0 v1 v2 v3 v4 v5:AVal) (h:za) (Q:zQ):Prop:=
 zfs.k1 C E C0 fL f1 Q v0 v1 v2 v3 v4 v5 h
@[simp] def zfr.k1 (C:CSem) (E:zz) (C0:CSem) (fL:Nat) (Q:zQ) (v0 v1 v2 v3 v4:AVal) (h:za):Prop:=
 B.pv (V.idxS E.es v0 v2) fun v15=>
  E.ld h v15 fun v16=>
  B.pv (V.idxS E.es v0 v1) fun v19=>
  E.ld h v19 fun v20=>
  B.call C0 fL [v16,v20] h fun v22 h=>
  B.cond v22
  (B.nilCheck v3 fun v24=>
  B.ld h v24 fun v25=>
  B.pv (V.bin .add v25 (.int .i64 1)) fun v26=>
  B.nilCheck v3 fun v27=>
  B.st h v27 v26 fun h=>
  Q (.tup [v2,v1]) h)
  (Q (.tup [v1,v2]) h)
@[simp] def zfr.cps (C:CSem) (E:zz) (C0:CSem) (fL:Nat) (v0 v1 v2 v3 v4:AVal) (h:za) (Q:zQ):Prop:=
 zfr.k1 C E C0 fL Q v0 v1 v2 v3 v4 h
end Go.Ab
namespace Go.Ab
variable {C:CSem}
structure PInv {X:Type} (c:X->X->Int) (a b:Nat) (G:List X) (i j:Nat):Prop where
 hb:b <= G.length
 hi:a<i
 hj:j<b
 hij:i <= j+1
 lo: ∀ k (h:k<G.length) (ha:a<G.length),a<k->k<i->c G[k] G[a]<0
 hi2: ∀ k (h:k<G.length) (ha:a<G.length),j<k->k<b-> ¬ c G[k] G[a]<0
structure zis {X:Type} (c:X->X->Int) (a b m:Nat) (G:List X):Prop where
 ge:a <= m
 lt:m<b
 hb:b <= G.length
 lo: ∀ k (h:k<G.length) (hm:m<G.length),a <= k->k<m->c G[k] G[m]<0
 hi: ∀ k (h:k<G.length) (hm:m<G.length),m<k->k<b-> ¬ c G[k] G[m]<0
section
variable {E:zz} {X:Type} {cs:X->List AVal} {v:X->AVal} {h0 h:za} {x f:AVal} {G:List X} {R:List (List AVal)} {c:X->X->Int} {Q:zQ} {Y1:zL} {a b i j:Nat}
theorem zfp {X:Type} {G:List X} {i j:Nat} (hi:i<G.length) (hj:j<G.length) {k:Nat} (hk:k<(swp G i j hi hj).length) (hk':k<G.length):(swp G i j hi hj)[k]=if k=j then G[i] else if k=i then G[j] else G[k]:=by
 have:=swp_get hi hj k
 rw [List.getElem?_eq_getElem hk] at this
 split at this
 ·rename_i e;rw [if_pos e];exact Option.some.inj this
 ·rename_i e;rw [if_neg e]
  split at this
  ·rename_i e2;rw [if_pos e2];exact Option.some.inj this
  ·rename_i e2;rw [if_neg e2,List.getElem?_eq_getElem hk'] at *;exact Option.some.inj this
theorem zg4 {X:Type} {G:List X} {i j:Nat} (hi:i<G.length) (hj:j<G.length):(swp G i j hi hj).length=G.length:=by simp [swp]
theorem PInv.done (p:PInv c a b G i j) (hab:a<b) (hc:j<i) (hj:j<G.length) (ha:a<G.length):zis c a b j (swp G j a hj ha):=by
 have h1:=p.hi;have h2:=p.hij;have h3:=p.hj;have h4:=p.hb
 have hl:=zg4 hj ha
 have pj: ∀ (hm:j<(swp G j a hj ha).length),(swp G j a hj ha)[j]=G[a]:=fun hm=>by
  rw [zfp hj ha hm hj]
  by_cases e:j=a
  ·subst e;simp
  ·rw [if_neg e,if_pos rfl]
 refine ⟨by omega,h3,by omega,fun k hk hm k1 k2=> ?_,fun k hk hm k1 k2=> ?_⟩
 ·rw [pj,zfp hj ha hk (by omega)]
  by_cases e:k=a
  ·rw [if_pos e];exact p.lo j hj ha (by omega) (by omega)
  ·rw [if_neg e,if_neg (by omega)];exact p.lo k (by omega) ha (by omega) (by omega)
 ·rw [pj,zfp hj ha hk (by omega),if_neg (by omega),if_neg (by omega)]
  exact p.hi2 k (by omega) ha k1 k2
theorem PInv.swap (p:PInv c a b G i j) (hc:i <= j) (hi:i<G.length) (hj:j<G.length) (ha:a<G.length) (h1: ¬ c G[i] G[a]<0) (h2:c G[j] G[a]<0):PInv c a b (swp G i j hi hj) (i+1) (j-1):=by
 have k1:=p.hi;have k2:=p.hij;have k3:=p.hj;have k4:=p.hb
 have hne:i≠j:=fun e=>by subst e;exact h1 h2
 have hl:=zg4 hi hj
 have pa: ∀ (hm:a<(swp G i j hi hj).length),(swp G i j hi hj)[a]=G[a]:=fun hm=>by rw [zfp hi hj hm ha,if_neg (by omega),if_neg (by omega)]
 refine ⟨by omega,by omega,by omega,by omega,fun k hk hm q1 q2=> ?_,fun k hk hm q1 q2=> ?_⟩
 ·rw [pa,zfp hi hj hk (by omega),if_neg (by omega)]
  by_cases e:k=i
  ·rw [if_pos e];exact h2
  ·rw [if_neg e];exact p.lo k (by omega) ha q1 (by omega)
 ·rw [pa,zfp hi hj hk (by omega)]
  by_cases e:k=j
  ·rw [if_pos e];exact h1
  ·rw [if_neg e,if_neg (by omega)];exact p.hi2 k (by omega) ha (by omega) q2
theorem part_j (S:zc0 E cs v) (hc:zdm C v c f h0) (ho:Rw E cs h0 h x G R) (hl:G.length<4611686018427387904) (hab:a<b) (p:PInv c a b G i j) (hi0:j<i \/ ∀ (h1:i<G.length) (h2:a<G.length),¬ c G[i] G[a]<0)
  (done: ∀ h' j',PInv c a b G i j'->j'<i->Rw E cs h0 h' x G R->ze.k1 C E Q x (.int .i64 (a:Int)) (.int .i64 (j':Int)) h')
  (next: ∀ h' j' (hi:i<G.length) (hj:j'<G.length) ,PInv c a b (swp G i j' hi hj) (i+1) (j'-1)->i<j'->j'<b->Rw E cs h0 h' x (swp G i j' hi hj) R->Y1 [.int .i64 ((i+1:Nat):Int),.int .i64 ((j'-1:Nat):Int)] h'):
  zw (ze.l4 C E Q Y1 x (.int .i64 (a:Int)) f (.int .i64 (i:Int))) [.int .i64 (j:Int)] h:=by
 refine zw.intro (fun t vs hh=>hh=h /\ ∃ j':Nat,t=j' /\ vs=[.int .i64 (j':Int)] /\ PInv c a b G i j' /\ (j'<i \/ ∀ (h1:i<G.length) (h2:a<G.length),¬ c G[i] G[a]<0)) j ?_ ⟨rfl,j,rfl,rfl,p,hi0⟩
 rintro Y j' vs hh ⟨rfl,_,rfl,rfl,p,hi0⟩ hY
 have k1:=p.hi;have k2:=p.hij;have k3:=p.hj;have k4:=p.hb
 have la:a<G.length:=by omega
 have lj:j'<G.length:=by omega
 simp -dsimp only [ze.l4,ze.k3,leqN,B.zd]
 by_cases hle:i <= j'
 ·have li:i<G.length:=by omega
  simp -dsimp only [hle,decide_true,B.gd_t,B.zce,ho.idx lj,ho.idx la,B.zd]
  refine ho.ld S (List.getElem?_eq_getElem lj) ?_
  refine ho.ld S (List.getElem?_eq_getElem la) ?_
  refine hc.call _ _ _ _ ho.le ?_
  simp -dsimp only [hle,decide_true,B.gd_t,B.zce,V.zec,V.zf5,B.zev,B.zd]
  refine B.zr (fun hd=> ?_) (fun hd=> ?_)
  ·have hd': ¬ c G[j'] G[a]<0:=by simpa using hd
   have e1:=zfq (a:=j') (b:=1) (by omega) (by omega)
   have e1':V.bin .sub (.int .i64 (j':Int)) (.int .i64 1)=some (.int .i64 ((j'-1:Nat):Int)):=e1
   simp -dsimp only [e1',B.zd]
   refine hY (j'-1) _ _ (by omega) ⟨rfl,j'-1,rfl,rfl,⟨k4,k1,by omega,by omega,p.lo,fun k hk ha q1 q2=> ?_⟩,?_⟩
   ·by_cases e:k=j'
    ·subst e;exact hd'
    ·exact p.hi2 k hk ha (by omega) q2
   ·rcases hi0 with h|h
    ·omega
    ·exact .inr h
  ·have hd':c G[j'] G[a]<0:=by simpa using hd
   have hni: ¬ c G[i] G[a]<0:=by
    rcases hi0 with h|h
    ·omega
    ·exact h li la
   simp -dsimp only [ze.k2,gtrN,show ¬ j'<i by omega,decide_false,B.cond_false,ho.idx lj,ho.idx li,B.zd]
   refine ho.ld S (List.getElem?_eq_getElem lj) ?_
   refine ho.ld S (List.getElem?_eq_getElem li) ?_
   refine ho.st S (t:=G[j']) li fun h1 o1=> ?_
   refine o1.st S (t:=G[i]) (by simpa using lj) fun h2 o2=> ?_
   have e1':V.bin .sub (.int .i64 (j':Int)) (.int .i64 1)=some (.int .i64 ((j'-1:Nat):Int)):=zfq (a:=j') (b:=1) (by omega) (by omega)
   simp -dsimp only [add1 (show i<4611686018427387904 by omega),e1',B.zd]
   have hne:i≠j':=fun e=>by subst e;exact hni hd'
   exact next h2 j' li lj (p.swap hle li lj la hni hd') (by omega) k3 o2
 ·simp -dsimp only [hle,decide_false,B.gd_t,B.zdw,B.ze2,B.cond_false,ze.k2,gtrN,show j'<i by omega,decide_true,B.cond_true,B.zd]
  exact done hh j' p (by omega) ho
theorem part_i (S:zc0 E cs v) (hc:zdm C v c f h0) (ho:Rw E cs h0 h x G R) (hl:G.length<4611686018427387904) (hab:a<b) (p:PInv c a b G i j)
  (done: ∀ h' i' j',PInv c a b G i' j'->j'<i'->Rw E cs h0 h' x G R->ze.k1 C E Q x (.int .i64 (a:Int)) (.int .i64 (j':Int)) h')
  (next: ∀ h' i' j' (hi:i'<G.length) (hj:j'<G.length),PInv c a b (swp G i' j' hi hj) (i'+1) (j'-1)->a<i'->i <= i'->i'<j'->j'<b->Rw E cs h0 h' x (swp G i' j' hi hj) R->Y1 [.int .i64 ((i'+1:Nat):Int),.int .i64 ((j'-1:Nat):Int)] h'):
  zw (ze.l6 C E Q Y1 x (.int .i64 (a:Int)) f (.int .i64 (j:Int))) [.int .i64 (i:Int)] h:=by
 refine zw.intro (fun t vs hh=>hh=h /\ ∃ i':Nat,i'+t=b /\ i <= i' /\ vs=[.int .i64 (i':Int)] /\ PInv c a b G i' j) (b-i) ?_ ⟨rfl,i,by have:=p.hij;have:=p.hj;omega,Nat.le_refl _,rfl,p⟩
 rintro Y t vs hh ⟨rfl,i',hit,hii,rfl,p⟩ hY
 have k1:=p.hi;have k2:=p.hij;have k3:=p.hj;have k4:=p.hb
 have la:a<G.length:=by omega
 simp -dsimp only [ze.l6,ze.k5,leqN,B.zd]
 by_cases hle:i' <= j
 ·have li:i'<G.length:=by omega
  simp -dsimp only [hle,decide_true,B.gd_t,B.zce,ho.idx li,ho.idx la,B.zd]
  refine ho.ld S (List.getElem?_eq_getElem li) ?_
  refine ho.ld S (List.getElem?_eq_getElem la) ?_
  refine hc.call _ _ _ _ ho.le ?_
  simp -dsimp only [hle,decide_true,B.gd_t,B.zce,V.zec,B.zev,B.zd]
  refine B.zr (fun hd=> ?_) (fun hd=> ?_)
  ·have hd':c G[i'] G[a]<0:=by simpa using hd
   simp -dsimp only [add1 (show i'<4611686018427387904 by omega),B.zd]
   refine hY (b-(i'+1)) _ _ (by omega) ⟨rfl,i'+1,by omega,by omega,rfl,⟨k4,by omega,k3,by omega,fun k hk ha q1 q2=> ?_,p.hi2⟩⟩
   by_cases e:k=i'
   ·subst e;exact hd'
   ·exact p.lo k hk ha q1 (by omega)
  ·have hd': ¬ c G[i'] G[a]<0:=by simpa using hd
   exact part_j S hc ho hl hab p (.inr fun _ _=>hd') (fun h' j' p' hlt o'=>done h' i' j' p' hlt o') fun h' j' hi hj p' h1 h2 o'=>next h' i' j' hi hj p' k1 hii h1 h2 o'
 ·simp -dsimp only [hle,decide_false,B.gd_t,B.zdw,B.ze2,B.cond_false]
  exact part_j S hc ho hl hab p (.inl (by omega)) (fun h' j' p' hlt o'=>done h' i' j' p' hlt o') fun h' j' hi hj p' h1 h2 o'=>next h' i' j' hi hj p' k1 hii h1 h2 o'
theorem part_end (S:zc0 E cs v) (ho:Rw E cs h0 h x G R) (hab:a<b) (p:PInv c a b G i j) (hlt:j<i) (hq: ∀ h' m G',zis c a b m G'->zcg a b G G'->Rw E cs h0 h' x G' R->Q (.tup [.int .i64 (m:Int),.bool false]) h'):
  ze.k1 C E Q x (.int .i64 (a:Int)) (.int .i64 (j:Int)) h:=by
 have k1:=p.hi;have k2:=p.hij;have k3:=p.hj;have k4:=p.hb
 have la:a<G.length:=by omega
 have lj:j<G.length:=by omega
 simp -dsimp only [ze.k1,ho.idx lj,ho.idx la,B.zd]
 refine ho.ld S (List.getElem?_eq_getElem la) ?_
 refine ho.ld S (List.getElem?_eq_getElem lj) ?_
 refine ho.st S (t:=G[a]) lj fun h1 o1=> ?_
 refine o1.st S (t:=G[j]) (by simpa using la) fun h2 o2=> ?_
 exact hq h2 j _ (p.done hab hlt lj la) (zds lj la (by omega) k3 (Nat.le_refl _) hab) o2
theorem zpo (S:zc0 E cs v) (hc:zdm C v c f h0) (ho:Rw E cs h0 h x G R) (hl:G.length<4611686018427387904) (hab:a<b) (p:PInv c a b G i j)
  (hq: ∀ h' m G',zis c a b m G'->zcg a b G G'->Rw E cs h0 h' x G' R->Q (.tup [.int .i64 (m:Int),.bool false]) h'):
  zw (ze.l7 C E Q x (.int .i64 (a:Int)) f) [.int .i64 (i:Int),.int .i64 (j:Int)] h:=by
 refine zw.intro (fun t vs hh=> ∃ (i' j':Nat) (G':List X),i'+t=b /\ vs=[.int .i64 (i':Int),.int .i64 (j':Int)] /\ zcg a b G G' /\ PInv c a b G' i' j' /\ Rw E cs h0 hh x G' R) (b-i) ?_ ⟨i,j,G,by have:=p.hij;have:=p.hj;omega,rfl,zcg.refl _ _ _,p,ho⟩
 rintro Y t vs hh ⟨i',j',G',hit,rfl,W,p,o⟩ hY
 have hlen:=W.len
 simp -dsimp only [ze.l7]
 refine part_i S hc o (by omega) hab p (fun h' i2 j2 p2 hlt o2=>part_end S o2 hab p2 hlt fun h3 m G3 P3 W3 o3=>hq h3 m G3 P3 (W.trans W3) o3) fun h' i2 j2 hi hj p2 h1 h2 h3 h4 o2=> ?_
 exact hY (b-(i2+1)) _ _ (by omega) ⟨i2+1,j2-1,_,by omega,rfl,W.trans (zds hi hj (by omega) (by omega) (by omega) h4),p2,o2⟩
end
end Go.Ab
namespace Go.Ab
variable {C:CSem}
section
variable {E:zz} {X:Type} {cs:X->List AVal} {v:X->AVal} {h0 h:za} {x f:AVal} {G:List X} {R:List (List AVal)} {c:X->X->Int} {Q:zQ} {a b i j:Nat}
abbrev PartQ (E:zz) {X:Type} (cs:X->List AVal) (h0:za) (x:AVal) (c:X->X->Int) (a b:Nat) (R:List (List AVal)) (G:List X) (Q:zQ):Prop:= ∀ h' m G' t,zis c a b m G'->zcg a b G G'->Rw E cs h0 h' x G' R->Q (.tup [.int .i64 (m:Int),.bool t]) h'
theorem zmu (S:zc0 E cs v) (hc:zdm C v c f h0) (ho:Rw E cs h0 h x G R) (hl:G.length<4611686018427387904) (hab:a<b) (p:PInv c a b G i j)
  (hd:j<i \/ ∃ (h1:i<G.length) (h2:a<G.length) (h3:j<G.length),i <= j /\ ¬ c G[i] G[a]<0 /\ c G[j] G[a]<0) (hq:PartQ E cs h0 x c a b R G Q):
  ze.k10 C E Q x (.int .i64 (a:Int)) f (.int .i64 (i:Int)) (.int .i64 (j:Int)) h:=by
 have k1:=p.hi;have k2:=p.hij;have k3:=p.hj;have k4:=p.hb
 have la:a<G.length:=by omega
 have lj:j<G.length:=by omega
 rcases hd with hlt|⟨li,_,_,hle,n1,n2⟩
 ·simp -dsimp only [ze.k10,gtrN,hlt,decide_true,B.cond_true,ho.idx lj,ho.idx la,B.zd]
  refine ho.ld S (List.getElem?_eq_getElem la) ?_
  refine ho.ld S (List.getElem?_eq_getElem lj) ?_
  refine ho.st S (t:=G[a]) lj fun h1 o1=> ?_
  refine o1.st S (t:=G[j]) (by simpa using la) fun h2 o2=> ?_
  exact hq h2 j _ true (p.done hab hlt lj la) (zds lj la (by omega) k3 (Nat.le_refl _) hab) o2
 ·simp -dsimp only [ze.k10,ze.k9,gtrN,show ¬ j<i by omega,decide_false,B.cond_false,ho.idx lj,ho.idx li,B.zd]
  refine ho.ld S (List.getElem?_eq_getElem lj) ?_
  refine ho.ld S (List.getElem?_eq_getElem li) ?_
  refine ho.st S (t:=G[j]) li fun h1 o1=> ?_
  refine o1.st S (t:=G[i]) (by simpa using lj) fun h2 o2=> ?_
  have hne:i≠j:=fun e=>by subst e;exact n1 n2
  have e1':V.bin .sub (.int .i64 (j:Int)) (.int .i64 1)=some (.int .i64 ((j-1:Nat):Int)):=zfq (a:=j) (b:=1) (by omega) (by omega)
  simp -dsimp only [ze.k8,add1 (show i<4611686018427387904 by omega),e1',B.zd]
  have W:=zds li lj (by omega) (by omega) (by omega:a <= j) k3
  exact zpo S hc (G:=swp G i j li lj) o2 (by rw [zg4 li lj];omega) hab (p.swap hle li lj la n1 n2) fun h' m G' P' W' o'=>hq h' m G' false P' (W.trans W') o'
theorem zpp (S:zc0 E cs v) (hc:zdm C v c f h0) (ho:Rw E cs h0 h x G R) (hl:G.length<4611686018427387904) (hab:a<b) (p:PInv c a b G i j) (hi0:j<i \/ ∀ (h1:i<G.length) (h2:a<G.length),¬ c G[i] G[a]<0) (hq:PartQ E cs h0 x c a b R G Q):
  zw (ze.l12 C E Q x (.int .i64 (a:Int)) f (.int .i64 (i:Int))) [.int .i64 (j:Int)] h:=by
 refine zw.intro (fun t vs hh=>hh=h /\ ∃ j':Nat,t=j' /\ vs=[.int .i64 (j':Int)] /\ PInv c a b G i j' /\ (j'<i \/ ∀ (h1:i<G.length) (h2:a<G.length),¬ c G[i] G[a]<0)) j ?_ ⟨rfl,j,rfl,rfl,p,hi0⟩
 rintro Y j' vs hh ⟨rfl,_,rfl,rfl,p,hi0⟩ hY
 have k1:=p.hi;have k2:=p.hij;have k3:=p.hj;have k4:=p.hb
 have la:a<G.length:=by omega
 have lj:j'<G.length:=by omega
 simp -dsimp only [ze.l12,ze.k11,leqN,B.zd]
 by_cases hle:i <= j'
 ·have li:i<G.length:=by omega
  simp -dsimp only [hle,decide_true,B.gd_t,B.zce,ho.idx lj,ho.idx la,B.zd]
  refine ho.ld S (List.getElem?_eq_getElem lj) ?_
  refine ho.ld S (List.getElem?_eq_getElem la) ?_
  refine hc.call _ _ _ _ ho.le ?_
  simp -dsimp only [hle,decide_true,B.gd_t,B.zce,V.zec,V.zf5,B.zev,B.zd]
  refine B.zr (fun hd=> ?_) (fun hd=> ?_)
  ·have hd': ¬ c G[j'] G[a]<0:=by simpa using hd
   have e1':V.bin .sub (.int .i64 (j':Int)) (.int .i64 1)=some (.int .i64 ((j'-1:Nat):Int)):=zfq (a:=j') (b:=1) (by omega) (by omega)
   simp -dsimp only [e1',B.zd]
   refine hY (j'-1) _ _ (by omega) ⟨rfl,j'-1,rfl,rfl,⟨k4,k1,by omega,by omega,p.lo,fun k hk ha q1 q2=> ?_⟩,?_⟩
   ·by_cases e:k=j'
    ·subst e;exact hd'
    ·exact p.hi2 k hk ha (by omega) q2
   ·rcases hi0 with h|h
    ·omega
    ·exact .inr h
  ·have hd':c G[j'] G[a]<0:=by simpa using hd
   have hni: ¬ c G[i] G[a]<0:=by
    rcases hi0 with h|h
    ·omega
    ·exact h li la
   exact zmu S hc ho hl hab p (.inr ⟨li,la,lj,hle,hni,hd'⟩) hq
 ·simp -dsimp only [hle,decide_false,B.gd_t,B.zdw,B.ze2,B.cond_false]
  exact zmu S hc ho hl hab p (.inl (by omega)) hq
theorem part_i1 (S:zc0 E cs v) (hc:zdm C v c f h0) (ho:Rw E cs h0 h x G R) (hl:G.length<4611686018427387904) (hab:a<b) (p:PInv c a b G i j) (hq:PartQ E cs h0 x c a b R G Q):
  zw (ze.l14 C E Q x (.int .i64 (a:Int)) f (.int .i64 (j:Int))) [.int .i64 (i:Int)] h:=by
 refine zw.intro (fun t vs hh=>hh=h /\ ∃ i':Nat,i'+t=b /\ vs=[.int .i64 (i':Int)] /\ PInv c a b G i' j) (b-i) ?_ ⟨rfl,i,by have:=p.hij;have:=p.hj;omega,rfl,p⟩
 rintro Y t vs hh ⟨rfl,i',hit,rfl,p⟩ hY
 have k1:=p.hi;have k2:=p.hij;have k3:=p.hj;have k4:=p.hb
 have la:a<G.length:=by omega
 simp -dsimp only [ze.l14,ze.k13,leqN,B.zd]
 by_cases hle:i' <= j
 ·have li:i'<G.length:=by omega
  simp -dsimp only [hle,decide_true,B.gd_t,B.zce,ho.idx li,ho.idx la,B.zd]
  refine ho.ld S (List.getElem?_eq_getElem li) ?_
  refine ho.ld S (List.getElem?_eq_getElem la) ?_
  refine hc.call _ _ _ _ ho.le ?_
  simp -dsimp only [hle,decide_true,B.gd_t,B.zce,V.zec,B.zev,B.zd]
  refine B.zr (fun hd=> ?_) (fun hd=> ?_)
  ·have hd':c G[i'] G[a]<0:=by simpa using hd
   simp -dsimp only [add1 (show i'<4611686018427387904 by omega),B.zd]
   refine hY (b-(i'+1)) _ _ (by omega) ⟨rfl,i'+1,by omega,rfl,⟨k4,by omega,k3,by omega,fun k hk ha q1 q2=> ?_,p.hi2⟩⟩
   by_cases e:k=i'
   ·subst e;exact hd'
   ·exact p.lo k hk ha q1 (by omega)
  ·have hd': ¬ c G[i'] G[a]<0:=by simpa using hd
   exact zpp S hc ho hl hab p (.inr fun _ _=>hd') hq
 ·simp -dsimp only [hle,decide_false,B.gd_t,B.zdw,B.ze2,B.cond_false]
  exact zpp S hc ho hl hab p (.inl (by omega)) hq
theorem zjt (S:zc0 E cs v) (hc:zdm C v c f h0) (ho:Rw E cs h0 h x G R) (hl:G.length<4611686018427387904) {pv:Nat} (hp1:a <= pv) (hp2:pv<b) (hb:b <= G.length) (hq:PartQ E cs h0 x c a b R G Q):
  ze.cps C E x (.int .i64 (a:Int)) (.int .i64 (b:Int)) (.int .i64 (pv:Int)) f h Q:=by
 have la:a<G.length:=by omega
 have lp:pv<G.length:=by omega
 simp -dsimp only [ze.cps,ze.k16,ho.idx lp,ho.idx la,B.zd]
 refine ho.ld S (List.getElem?_eq_getElem lp) ?_
 refine ho.ld S (List.getElem?_eq_getElem la) ?_
 refine ho.st S (t:=G[pv]) la fun h1 o1=> ?_
 refine o1.st S (t:=G[a]) (by simpa using lp) fun h2 o2=> ?_
 have e1':V.bin .sub (.int .i64 (b:Int)) (.int .i64 1)=some (.int .i64 ((b-1:Nat):Int)):=zfq (a:=b) (b:=1) (by omega) (by omega)
 simp -dsimp only [ze.k15,add1 (show a<4611686018427387904 by omega),e1',B.zd]
 have W:=zds la lp (Nat.le_refl _) (by omega) hp1 hp2
 have hsl:=zg4 la lp
 refine part_i1 S hc (G:=swp G a pv la lp) o2 (by omega) (by omega) ⟨by omega,by omega,by omega,by omega,fun k _ _ q1 q2=>by omega,fun k _ _ q1 q2=>by omega⟩ fun h' m G' t P' W' o'=>hq h' m G' t P' (W.trans W') o'
end
end Go.Ab
namespace Go.Ab
variable {C:CSem}
structure EInv {X:Type} (c:X->X->Int) (a b:Nat) (G:List X) (i j:Nat):Prop where
 hb:b <= G.length
 hi:a<i
 hj:j<b
 hij:i <= j+1
 lo: ∀ k (h:k<G.length) (ha:a<G.length),a<k->k<i-> ¬ c G[a] G[k]<0
 hi2: ∀ k (h:k<G.length) (ha:a<G.length),j<k->k<b->c G[a] G[k]<0
theorem EInv.swap {X:Type} {c:X->X->Int} {a b i j:Nat} {G:List X} (p:EInv c a b G i j) (hc:i <= j) (hi:i<G.length) (hj:j<G.length) (ha:a<G.length) (h1:c G[a] G[i]<0) (h2: ¬ c G[a] G[j]<0):EInv c a b (swp G i j hi hj) (i+1) (j-1):=by
 have k1:=p.hi;have k2:=p.hij;have k3:=p.hj;have k4:=p.hb
 have hne:i≠j:=fun e=>by subst e;exact h2 h1
 have hl:=zg4 hi hj
 have pa: ∀ (hm:a<(swp G i j hi hj).length),(swp G i j hi hj)[a]=G[a]:=fun hm=>by rw [zfp hi hj hm ha,if_neg (by omega),if_neg (by omega)]
 refine ⟨by omega,by omega,by omega,by omega,fun k hk hm q1 q2=> ?_,fun k hk hm q1 q2=> ?_⟩
 ·rw [pa,zfp hi hj hk (by omega),if_neg (by omega)]
  by_cases e:k=i
  ·rw [if_pos e];exact h2
  ·rw [if_neg e];exact p.lo k (by omega) ha q1 (by omega)
 ·rw [pa,zfp hi hj hk (by omega)]
  by_cases e:k=j
  ·rw [if_pos e];exact h1
  ·rw [if_neg e,if_neg (by omega)];exact p.hi2 k (by omega) ha (by omega) q2
section
variable {E:zz} {X:Type} {cs:X->List AVal} {v:X->AVal} {h0 h:za} {x f:AVal} {G:List X} {R:List (List AVal)} {c:X->X->Int} {Q:zQ} {Y1:zL} {a b i j:Nat}
theorem eq_j (S:zc0 E cs v) (hc:zdm C v c f h0) (ho:Rw E cs h0 h x G R) (hl:G.length<4611686018427387904) (hab:a<b) (p:EInv c a b G i j) (hi0:j<i \/ ∀ (h1:i<G.length) (h2:a<G.length),c G[a] G[i]<0)
  (done: ∀ h' j',EInv c a b G i j'->j'<i->Rw E cs h0 h' x G R->Q (.int .i64 (i:Int)) h')
  (next: ∀ h' j' (hi:i<G.length) (hj:j'<G.length),EInv c a b (swp G i j' hi hj) (i+1) (j'-1)->i<j'->j'<b->Rw E cs h0 h' x (swp G i j' hi hj) R->Y1 [.int .i64 ((i+1:Nat):Int),.int .i64 ((j'-1:Nat):Int)] h'):
  zw (zj.l3 C E Q Y1 x (.int .i64 (a:Int)) f (.int .i64 (i:Int))) [.int .i64 (j:Int)] h:=by
 refine zw.intro (fun t vs hh=>hh=h /\ ∃ j':Nat,t=j' /\ vs=[.int .i64 (j':Int)] /\ EInv c a b G i j' /\ (j'<i \/ ∀ (h1:i<G.length) (h2:a<G.length),c G[a] G[i]<0)) j ?_ ⟨rfl,j,rfl,rfl,p,hi0⟩
 rintro Y j' vs hh ⟨rfl,_,rfl,rfl,p,hi0⟩ hY
 have k1:=p.hi;have k2:=p.hij;have k3:=p.hj;have k4:=p.hb
 have la:a<G.length:=by omega
 have lj:j'<G.length:=by omega
 simp -dsimp only [zj.l3,zj.k2,leqN,B.zd]
 by_cases hle:i <= j'
 ·have li:i<G.length:=by omega
  simp -dsimp only [hle,decide_true,B.gd_t,B.zce,ho.idx lj,ho.idx la,B.zd]
  refine ho.ld S (List.getElem?_eq_getElem la) ?_
  refine ho.ld S (List.getElem?_eq_getElem lj) ?_
  refine hc.call _ _ _ _ ho.le ?_
  simp -dsimp only [hle,decide_true,B.gd_t,B.zce,V.zec,B.zev,B.zd]
  refine B.zr (fun hd=> ?_) (fun hd=> ?_)
  ·have hd':c G[a] G[j']<0:=by simpa using hd
   have e1':V.bin .sub (.int .i64 (j':Int)) (.int .i64 1)=some (.int .i64 ((j'-1:Nat):Int)):=zfq (a:=j') (b:=1) (by omega) (by omega)
   simp -dsimp only [e1',B.zd]
   refine hY (j'-1) _ _ (by omega) ⟨rfl,j'-1,rfl,rfl,⟨k4,k1,by omega,by omega,p.lo,fun k hk ha q1 q2=> ?_⟩,?_⟩
   ·by_cases e:k=j'
    ·subst e;exact hd'
    ·exact p.hi2 k hk ha (by omega) q2
   ·rcases hi0 with h|h
    ·omega
    ·exact .inr h
  ·have hd': ¬ c G[a] G[j']<0:=by simpa using hd
   have hni:c G[a] G[i]<0:=by
    rcases hi0 with h|h
    ·omega
    ·exact h li la
   simp -dsimp only [zj.k1,gtrN,show ¬ j'<i by omega,decide_false,B.cond_false,ho.idx lj,ho.idx li,B.zd]
   refine ho.ld S (List.getElem?_eq_getElem lj) ?_
   refine ho.ld S (List.getElem?_eq_getElem li) ?_
   refine ho.st S (t:=G[j']) li fun h1 o1=> ?_
   refine o1.st S (t:=G[i]) (by simpa using lj) fun h2 o2=> ?_
   have e1':V.bin .sub (.int .i64 (j':Int)) (.int .i64 1)=some (.int .i64 ((j'-1:Nat):Int)):=zfq (a:=j') (b:=1) (by omega) (by omega)
   simp -dsimp only [add1 (show i<4611686018427387904 by omega),e1',B.zd]
   have hne:i≠j':=fun e=>by subst e;exact hd' hni
   exact next h2 j' li lj (p.swap hle li lj la hni hd') (by omega) k3 o2
 ·simp -dsimp only [hle,decide_false,B.gd_t,B.zdw,B.ze2,B.cond_false,zj.k1,gtrN,show j'<i by omega,decide_true,B.cond_true,B.zd]
  exact done hh j' p (by omega) ho
theorem eq_i (S:zc0 E cs v) (hc:zdm C v c f h0) (ho:Rw E cs h0 h x G R) (hl:G.length<4611686018427387904) (hab:a<b) (p:EInv c a b G i j)
  (done: ∀ h' i' j',EInv c a b G i' j'->j'<i'->Rw E cs h0 h' x G R->Q (.int .i64 (i':Int)) h')
  (next: ∀ h' i' j' (hi:i'<G.length) (hj:j'<G.length),EInv c a b (swp G i' j' hi hj) (i'+1) (j'-1)->a<i'->i <= i'->i'<j'->j'<b->Rw E cs h0 h' x (swp G i' j' hi hj) R->Y1 [.int .i64 ((i'+1:Nat):Int),.int .i64 ((j'-1:Nat):Int)] h'):
  zw (zj.l5 C E Q Y1 x (.int .i64 (a:Int)) f (.int .i64 (j:Int))) [.int .i64 (i:Int)] h:=by
 refine zw.intro (fun t vs hh=>hh=h /\ ∃ i':Nat,i'+t=b /\ i <= i' /\ vs=[.int .i64 (i':Int)] /\ EInv c a b G i' j) (b-i) ?_ ⟨rfl,i,by have:=p.hij;have:=p.hj;omega,Nat.le_refl _,rfl,p⟩
 rintro Y t vs hh ⟨rfl,i',hit,hii,rfl,p⟩ hY
 have k1:=p.hi;have k2:=p.hij;have k3:=p.hj;have k4:=p.hb
 have la:a<G.length:=by omega
 simp -dsimp only [zj.l5,zj.k4,leqN,B.zd]
 by_cases hle:i' <= j
 ·have li:i'<G.length:=by omega
  simp -dsimp only [hle,decide_true,B.gd_t,B.zce,ho.idx li,ho.idx la,B.zd]
  refine ho.ld S (List.getElem?_eq_getElem la) ?_
  refine ho.ld S (List.getElem?_eq_getElem li) ?_
  refine hc.call _ _ _ _ ho.le ?_
  simp -dsimp only [hle,decide_true,B.gd_t,B.zce,V.zec,V.zf5,B.zev,B.zd]
  refine B.zr (fun hd=> ?_) (fun hd=> ?_)
  ·have hd': ¬ c G[a] G[i']<0:=by simpa using hd
   simp -dsimp only [add1 (show i'<4611686018427387904 by omega),B.zd]
   refine hY (b-(i'+1)) _ _ (by omega) ⟨rfl,i'+1,by omega,by omega,rfl,⟨k4,by omega,k3,by omega,fun k hk ha q1 q2=> ?_,p.hi2⟩⟩
   by_cases e:k=i'
   ·subst e;exact hd'
   ·exact p.lo k hk ha q1 (by omega)
  ·have hd':c G[a] G[i']<0:=by simpa using hd
   exact eq_j S hc ho hl hab p (.inr fun _ _=>hd') (fun h' j' p' hlt o'=>done h' i' j' p' hlt o') fun h' j' hi hj p' h1 h2 o'=>next h' i' j' hi hj p' k1 hii h1 h2 o'
 ·simp -dsimp only [hle,decide_false,B.gd_t,B.zdw,B.ze2,B.cond_false]
  exact eq_j S hc ho hl hab p (.inl (by omega)) (fun h' j' p' hlt o'=>done h' i' j' p' hlt o') fun h' j' hi hj p' h1 h2 o'=>next h' i' j' hi hj p' k1 hii h1 h2 o'
theorem eq_main (S:zc0 E cs v) (hc:zdm C v c f h0) (ho:Rw E cs h0 h x G R) (hl:G.length<4611686018427387904) (hab:a<b) (p:EInv c a b G i j)
  (hq: ∀ h' i' j' G',EInv c a b G' i' j'->j'<i'->zcg (a+1) b G G'->Rw E cs h0 h' x G' R->Q (.int .i64 (i':Int)) h'):
  zw (zj.l6 C E Q x (.int .i64 (a:Int)) f) [.int .i64 (i:Int),.int .i64 (j:Int)] h:=by
 refine zw.intro (fun t vs hh=> ∃ (i' j':Nat) (G':List X),i'+t=b /\ vs=[.int .i64 (i':Int),.int .i64 (j':Int)] /\ zcg (a+1) b G G' /\ EInv c a b G' i' j' /\ Rw E cs h0 hh x G' R) (b-i) ?_ ⟨i,j,G,by have:=p.hij;have:=p.hj;omega,rfl,zcg.refl _ _ _,p,ho⟩
 rintro Y t vs hh ⟨i',j',G',hit,rfl,W,p,o⟩ hY
 have hlen:=W.len
 simp -dsimp only [zj.l6]
 refine eq_i S hc o (by omega) hab p (fun h' i2 j2 p2 hlt o2=>hq h' i2 j2 G' p2 hlt W o2) fun h' i2 j2 hi hj p2 h1 h2 h3 h4 o2=> ?_
 exact hY (b-(i2+1)) _ _ (by omega) ⟨i2+1,j2-1,_,by omega,rfl,W.trans (zds hi hj (by omega) (by omega) (by omega) h4),p2,o2⟩
theorem zg7 (S:zc0 E cs v) (hc:zdm C v c f h0) (ho:Rw E cs h0 h x G R) (hl:G.length<4611686018427387904) {pv:Nat} (hp1:a <= pv) (hp2:pv<b) (hb:b <= G.length)
  (hq: ∀ h' i' j' G',EInv c a b G' i' j'->j'<i'->zcg a b G G'->(∀ (h1:a<G'.length) (h2:pv<G.length),G'[a]=G[pv])->Rw E cs h0 h' x G' R->Q (.int .i64 (i':Int)) h'):
  zj.cps C E x (.int .i64 (a:Int)) (.int .i64 (b:Int)) (.int .i64 (pv:Int)) f h Q:=by
 have la:a<G.length:=by omega
 have lp:pv<G.length:=by omega
 simp -dsimp only [zj.cps,zj.k8,ho.idx lp,ho.idx la,B.zd]
 refine ho.ld S (List.getElem?_eq_getElem lp) ?_
 refine ho.ld S (List.getElem?_eq_getElem la) ?_
 refine ho.st S (t:=G[pv]) la fun h1 o1=> ?_
 refine o1.st S (t:=G[a]) (by simpa using lp) fun h2 o2=> ?_
 have e1':V.bin .sub (.int .i64 (b:Int)) (.int .i64 1)=some (.int .i64 ((b-1:Nat):Int)):=zfq (a:=b) (b:=1) (by omega) (by omega)
 simp -dsimp only [zj.k7,add1 (show a<4611686018427387904 by omega),e1',B.zd]
 have W:=zds la lp (Nat.le_refl _) (by omega) hp1 hp2
 have hsl:=zg4 la lp
 refine eq_main S hc (G:=swp G a pv la lp) o2 (by omega) (by omega) ⟨by omega,by omega,by omega,by omega,fun k _ _ q1 q2=>by omega,fun k _ _ q1 q2=>by omega⟩ fun h' i' j' G' p' hlt W' o'=>hq h' i' j' G' p' hlt (W.trans (W'.mono (by omega) (Nat.le_refl _))) (fun h1 h2=> ?_) o'
 rw [W'.same (.inl (by omega)) h1 (by omega),zfp la lp (by omega) la]
 split
 ·rename_i e;simp only [e]
 ·rw [if_pos rfl]
end
end Go.Ab
namespace Go.Ab
structure SInv {X:Type} (c:X->X->Int) (a n lo r:Nat) (G:List X):Prop where
 len:a+n <= G.length
 heap: ∀ k,0<k->(hk:k<n)->lo <= (k-1) / 2->(k-1) / 2≠r->(h1:a+(k-1) / 2<G.length)->(h2:a+k<G.length)-> ¬ c G[a+(k-1) / 2] G[a+k]<0
 grand:lo <= (r-1) / 2->0<r-> ∀ k,0<k->(hk:k<n)->(k-1) / 2=r->(h1:a+(r-1) / 2<G.length)->(h2:a+k<G.length)-> ¬ c G[a+(r-1) / 2] G[a+k]<0
def Heap {X:Type} (c:X->X->Int) (a n lo:Nat) (G:List X):Prop:= ∀ k,0<k->(hk:k<n)->lo <= (k-1) / 2->(h1:a+(k-1) / 2<G.length)->(h2:a+k<G.length)-> ¬ c G[a+(k-1) / 2] G[a+k]<0
section
variable {X:Type} {c:X->X->Int} {a n lo r ch:Nat} {G:List X}
theorem SInv.done (p:SInv c a n lo r G) (hr: ∀ k,0<k->k<n->(k-1) / 2=r->(h1:a+r<G.length)->(h2:a+k<G.length)-> ¬ c G[a+r] G[a+k]<0):Heap c a n lo G:=fun k h0 hk hl h1 h2=>by
 by_cases e:(k-1) / 2=r
 ·have:=hr k h0 hk e (by rw [<- e];exact h1) h2
  simp only [e];exact this
 ·exact p.heap k h0 hk hl e h1 h2
theorem SInv.step (W:Weak (zd9 c)) (p:SInv c a n lo r G) (hlo:lo <= r) (hch:ch<n) (hp:(ch-1) / 2=r) (h0:0<ch) (hr:a+r<G.length) (hc:a+ch<G.length) (hlt:c G[a+r] G[a+ch]<0)
  (hmax: ∀ k,0<k->k<n->(k-1) / 2=r->(h2:a+k<G.length)-> ¬ c G[a+ch] G[a+k]<0):SInv c a n lo ch (swp G (a+r) (a+ch) hr hc):=by
 have hl:=zg4 hr hc
 have hrc:r<ch:=by omega
 have asym: ¬ c G[a+ch] G[a+r]<0:=by
  have:=W.asym (a:=G[a+r]) (b:=G[a+ch]) (by unfold zd9;exact decide_eq_true hlt)
  unfold zd9 at this;exact of_decide_eq_false this
 refine ⟨by rw [hl];exact p.len,fun k k0 hk hlk hne h1 h2=> ?_,fun _ _ k k0 hk hkp h1 h2=> ?_⟩
 ·have g1:a+(k-1) / 2<G.length:=by omega
  have g2:a+k<G.length:=by omega
  rw [zfp hr hc h1 g1,zfp hr hc h2 g2,if_neg (by omega: ¬ a+(k-1) / 2=a+ch)]
  by_cases e1:(k-1) / 2=r
  ·rw [if_pos (by omega)]
   by_cases e2:k=ch
   ·rw [if_pos (by omega)];exact asym
   ·rw [if_neg (by omega),if_neg (by omega)];exact hmax k k0 hk e1 g2
  ·rw [if_neg (by omega)]
   by_cases e2:k=r
   ·rw [if_neg (by omega),if_pos (by omega)]
    subst e2
    exact p.grand hlk k0 ch h0 hch hp g1 hc
   ·rw [if_neg (by omega),if_neg (by omega)];exact p.heap k k0 hk hlk e1 g1 g2
 ·have g1:a+(ch-1) / 2<G.length:=by omega
  have g2:a+k<G.length:=by omega
  rw [zfp hr hc h1 g1,zfp hr hc h2 g2,if_neg (by omega),if_pos (by omega),if_neg (by omega),if_neg (by omega)]
  have:=p.heap k k0 hk (by omega) (by omega) (by omega) g2
  simp only [hkp] at this
  exact this
end
end Go.Ab
namespace Go.Ab
variable {C:CSem}
section
variable {E:zz} {X:Type} {cs:X->List AVal} {v:X->AVal} {h0 h:za} {x f:AVal} {G:List X} {R:List (List AVal)} {c:X->X->Int} {Q:zQ} {Y1:zL} {a n lo r ch:Nat}
theorem sift_k1 (S:zc0 E cs v) (W:Weak (zd9 c)) (hc:zdm C v c f h0) (ho:Rw E cs h0 h x G R) (hl:G.length<1000000000) (p:SInv c a n lo r G) (hlo:lo <= r) (hch:ch<n) (hp:(ch-1) / 2=r) (hc0:0<ch)
  (hmax: ∀ k,0<k->k<n->(k-1) / 2=r->(h1:a+ch<G.length)->(h2:a+k<G.length)-> ¬ c G[a+ch] G[a+k]<0)
  (done: ∀ h',Heap c a n lo G->Rw E cs h0 h' x G R->Q (.tup []) h')
  (next: ∀ h' (hr:a+r<G.length) (hcl:a+ch<G.length),SInv c a n lo ch (swp G (a+r) (a+ch) hr hcl)->Rw E cs h0 h' x (swp G (a+r) (a+ch) hr hcl) R->Y1 [.int .i64 (ch:Int)] h'):
  zbh.k1 C E Q Y1 x (.int .i64 (n:Int)) (.int .i64 (a:Int)) f (.int .i64 (r:Int)) (.int .i64 (ch:Int)) h:=by
 have hlen:=p.len
 have lr:a+r<G.length:=by omega
 have lc:a+ch<G.length:=by omega
 have ar:=zh3 (a:=a) (b:=r) (by omega)
 have ac:=zh3 (a:=a) (b:=ch) (by omega)
 simp -dsimp only [zbh.k1,ar,ac,ho.idx lr,ho.idx lc,B.zd]
 refine ho.ld S (List.getElem?_eq_getElem lr) ?_
 refine ho.ld S (List.getElem?_eq_getElem lc) ?_
 refine hc.call _ _ _ _ ho.le ?_
 simp -dsimp only [V.zec,V.zf5,B.zd]
 refine B.zr (fun hd=> ?_) (fun hd=> ?_)
 ·have hd': ¬ c G[a+r] G[a+ch]<0:=by simpa using hd
  refine done h (p.done fun k k0 hk hkp h1 h2=> ?_) ho
  have:=W.zl2 (a:=G[a+r]) (b:=G[a+ch]) (c:=G[a+k]) (by unfold zd9;exact decide_eq_false hd') (by unfold zd9;exact decide_eq_false (hmax k k0 hk hkp lc h2))
  unfold zd9 at this;exact of_decide_eq_false this
 ·have hd':c G[a+r] G[a+ch]<0:=by simpa using hd
  simp -dsimp only [ar,ac,ho.idx lr,ho.idx lc,B.zd]
  refine ho.ld S (List.getElem?_eq_getElem lc) ?_
  refine ho.ld S (List.getElem?_eq_getElem lr) ?_
  refine ho.st S (t:=G[a+ch]) lr fun h1 o1=> ?_
  refine o1.st S (t:=G[a+r]) (by simpa using lc) fun h2 o2=> ?_
  exact next h2 lr lc (p.step W hlo hch hp hc0 lr lc hd' fun k k0 hk hkp h2=>hmax k k0 hk hkp lc h2) o2
theorem zhk (S:zc0 E cs v) (W:Weak (zd9 c)) (hc:zdm C v c f h0) (ho:Rw E cs h0 h x G R) (hl:G.length<1000000000) (p:SInv c a n lo r G) (hlo:lo <= r) (hrn:r <= n) {b:Nat} (hb:a+n <= b)
  (hq: ∀ h' G',Heap c a n lo G'->zcg a b G G'->Rw E cs h0 h' x G' R->Q (.tup []) h'):
  zbh.cps C E x (.int .i64 (r:Int)) (.int .i64 (n:Int)) (.int .i64 (a:Int)) f h Q:=by
 simp -dsimp only [zbh.cps]
 refine zw.intro (fun t vs hh=> ∃ (r':Nat) (G':List X),r'+t=n /\ vs=[.int .i64 (r':Int)] /\ lo <= r' /\ SInv c a n lo r' G' /\ zcg a b G G' /\ Rw E cs h0 hh x G' R) (n-r) ?_ ⟨r,G,by omega,rfl,hlo,p,zcg.refl _ _ _,ho⟩
 rintro Y t vs hh ⟨r',G',hrt,rfl,hlo',p',W',o⟩ hY
 have hlen:=W'.len
 have pl:=p'.len
 have e1:V.bin .mul (.int .i64 2) (.int .i64 (r':Int))=some (.int .i64 ((2*r':Nat):Int)):=mulN (a:=2) (b:=r') (by omega)
 simp -dsimp only [zbh.l4,zbh.k3,e1,add1 (show 2*r'<4611686018427387904 by omega),geqN,B.zd]
 refine B.zr (fun hd=> ?_) (fun hd=> ?_)
 ·rw [decide_eq_true_eq] at hd
  exact hq hh G' (p'.done fun k k0 hk hkp _ _=>by omega) W' o
 ·rw [decide_eq_false_iff_not] at hd
  have fin: ∀ ch,ch<n->(ch-1) / 2=r'->0<ch->(∀ k,0<k->k<n->(k-1) / 2=r'->(h1:a+ch<G'.length)->(h2:a+k<G'.length)-> ¬ c G'[a+ch] G'[a+k]<0)->zbh.k1 C E Q Y x (.int .i64 (n:Int)) (.int .i64 (a:Int)) f (.int .i64 (r':Int)) (.int .i64 (ch:Int)) hh:=fun ch c1 c2 c3 c4=>
   sift_k1 S W hc o (by omega) p' hlo' c1 c2 c3 c4 (fun h' hp o'=>hq h' G' hp W' o') fun h' hr hcl p2 o2=>hY (n-ch) _ _ (by omega) ⟨ch,_,by omega,rfl,by omega,p2,W'.trans (zds hr hcl (by omega) (by omega) (by omega) (by omega)),o2⟩
  have irr: ∀ t:X,¬ c t t<0:=fun t=>by
   have:=W.irr t;unfold zd9 at this;exact of_decide_eq_false this
  have a1:=zh3 (a:=a) (b:=2*r'+1) (by omega)
  simp -dsimp only [zbh.k2,add1 (show 2*r'+1<4611686018427387904 by omega),lssN,B.zd]
  by_cases h2:2*r'+1+1<n
  ·have l1:a+(2*r'+1)<G'.length:=by omega
   have l2:a+(2*r'+1)+1<G'.length:=by omega
   simp -dsimp only [h2,decide_true,B.gd_t,B.zce,a1,add1 (show a+(2*r'+1)<4611686018427387904 by omega),o.idx l1,o.idx l2,B.zd]
   refine o.ld S (List.getElem?_eq_getElem l1) ?_
   refine o.ld S (List.getElem?_eq_getElem l2) ?_
   refine hc.call _ _ _ _ o.le ?_
   simp -dsimp only [h2,decide_true,B.gd_t,B.zce,V.zec,B.zev,B.zd]
   refine B.zr (fun hf=> ?_) (fun hf=> ?_)
   ·have hf':c G'[a+(2*r'+1)] G'[a+(2*r'+1)+1]<0:=by simpa using hf
    simp -dsimp only [add1 (show 2*r'+1<4611686018427387904 by omega),B.zd]
    refine fin (2*r'+1+1) h2 (by omega) (by omega) fun k k0 hk hkp h1 h3=> ?_
    rcases (show k=2*r'+1 \/ k=2*r'+1+1 by omega) with rfl|rfl
    ·have:=W.asym (a:=G'[a+(2*r'+1)]) (b:=G'[a+(2*r'+1)+1]) (by unfold zd9;exact decide_eq_true hf')
     unfold zd9 at this;exact of_decide_eq_false this
    ·exact irr _
   ·have hf': ¬ c G'[a+(2*r'+1)] G'[a+(2*r'+1)+1]<0:=by simpa using hf
    refine fin (2*r'+1) (by omega) (by omega) (by omega) fun k k0 hk hkp h1 h3=> ?_
    rcases (show k=2*r'+1 \/ k=2*r'+1+1 by omega) with rfl|rfl
    ·exact irr _
    ·exact hf'
  ·simp -dsimp only [h2,decide_false,B.gd_t,B.zdw,B.ze2,B.cond_false]
   refine fin (2*r'+1) (by omega) (by omega) (by omega) fun k k0 hk hkp h1 h3=> ?_
   have:k=2*r'+1:=by omega
   subst this;exact irr _
end
end Go.Ab
namespace Go.Ab
section
variable {X:Type} {c:X->X->Int} {a b n lo:Nat} {G G':List X}
theorem Heap.sinv {X:Type} {c:X->X->Int} {a n lo:Nat} {G:List X} (p:Heap c a n (lo+1) G) (hl:a+n <= G.length):SInv c a n lo lo G:=
 ⟨hl,fun k k0 hk h1 hne h2 h3=>p k k0 hk (by omega) h2 h3,fun h1 h0=>by omega⟩
theorem Heap.none_ {X:Type} {c:X->X->Int} {a n lo:Nat} {G:List X} (h:n <= 2*lo+1):Heap c a n lo G:=fun k k0 hk h1 _ _=>by omega
theorem Heap.root (W:Weak (zd9 c)) (p:Heap c a n 0 G) (hl:a+n <= G.length): ∀ (k:Nat) (hk:k<n),¬ c (G[a]'(by omega)) (G[a+k]'(by omega))<0:=by
 intro k
 induction k using Nat.strongRecOn with
 | ind k ih=>
  intro hk
  by_cases e:k=0
  ·subst e
   have:=W.irr (G[a]'(by omega));unfold zd9 at this;simpa using this
  ·have h1:=ih ((k-1) / 2) (by omega) (by omega)
   have h2:=p k (by omega) hk (by omega) (by omega) (by omega)
   have:=W.zl2 (a:=G[a]'(by omega)) (b:=G[a+(k-1) / 2]'(by omega)) (c:=G[a+k]'(by omega)) (by unfold zd9;exact decide_eq_false h1) (by unfold zd9;exact decide_eq_false h2)
   unfold zd9 at this;exact of_decide_eq_false this
theorem zcg.take (w:zcg a b G G'):G'.take a=G.take a:=List.ext_getElem? fun i=>by
 rw [List.getElem?_take,List.getElem?_take]
 split
 ·rename_i h;exact w.out i (.inl h)
 ·rfl
theorem zcg.drop (w:zcg a b G G'):G'.drop b=G.drop b:=List.ext_getElem? fun i=>by
 rw [List.getElem?_drop,List.getElem?_drop];exact w.out (b+i) (.inr (by omega))
theorem split3 (hab:a <= b) (G:List X):G=G.take a++((G.take b).drop a++G.drop b):=by
 have h1:G.take a=(G.take b).take a:=by rw [List.take_take,Nat.min_eq_left hab]
 rw [h1, <- List.append_assoc,List.take_append_drop,List.take_append_drop]
theorem zcg.mid (w:zcg a b G G') (hab:a <= b):((G'.take b).drop a).Perm ((G.take b).drop a):=by
 have h:=w.perm
 rw [split3 hab G,split3 hab G',w.take,w.drop] at h
 exact (List.perm_append_right_iff _).1 ((List.perm_append_left_iff _).1 h)
theorem zcg.mem (w:zcg a b G G') {k:Nat} (h1:a <= k) (h2:k<b) (hk:k<G'.length): ∃ k',a <= k' /\ k'<b /\ ∃ h':k'<G.length,G'[k]=G[k']:=by
 have hm:G'[k]∈(G'.take b).drop a:=by
  rw [List.mem_iff_getElem?]
  refine ⟨k-a,?_⟩
  rw [List.getElem?_drop,List.getElem?_take,if_pos (by omega),Nat.add_sub_cancel' h1,List.getElem?_eq_getElem hk]
 have:=(w.mid (by omega)).mem_iff.1 hm
 rw [List.mem_iff_getElem?] at this
 obtain ⟨i,hi⟩:=this
 rw [List.getElem?_drop,List.getElem?_take] at hi
 split at hi
 ·rename_i hlt
  obtain ⟨hb,e⟩:=List.getElem?_eq_some_iff.1 hi
  exact ⟨a+i,by omega,hlt,hb,e.symm⟩
 ·cases hi
def Cut {X:Type} (c:X->X->Int) (A B a b:Nat) (G:List X):Prop:= ∀ p q,A <= p->p<q->q<B->p<a \/ b <= q-> ∀ (h1:p<G.length) (h2:q<G.length),¬ c G[q] G[p]<0
def Srt {X:Type} (c:X->X->Int) (A B:Nat) (G:List X):Prop:= ∀ p q,A <= p->p<q->q<B-> ∀ (h1:p<G.length) (h2:q<G.length),¬ c G[q] G[p]<0
theorem Cut.within {A B:Nat} (x:Cut c A B a b G) (w:zcg a b G G') (ha:A <= a) (hb:b <= B):Cut c A B a b G':=fun p q hp hpq hq h h1 h2=>by
 have hl:=w.len
 rcases h with h|h
 ·rw [w.same (.inl h) h1 (by omega)]
  by_cases hq2:a <= q /\ q<b
  ·obtain ⟨q',h3,h4,h5,e⟩:=w.mem hq2.1 hq2.2 h2
   rw [e];exact x p q' hp (by omega) (by omega) (.inl h) (by omega) h5
  ·rw [w.same (by omega) h2 (by omega)];exact x p q hp hpq hq (.inl h) _ _
 ·rw [w.same (k:=q) (.inr h) h2 (by omega)]
  by_cases hp2:a <= p /\ p<b
  ·obtain ⟨p',h3,h4,h5,e⟩:=w.mem hp2.1 hp2.2 h1
   rw [e];exact x p' q (by omega) (by omega) hq (.inr h) h5 (by omega)
  ·rw [w.same (k:=p) (by omega) h1 (by omega)];exact x p q hp hpq hq (.inr h) _ _
theorem Cut.join {A B:Nat} (x:Cut c A B a b G) (s:Srt c a b G):Srt c A B G:=fun p q hp hpq hq h1 h2=>by
 by_cases h:p<a \/ b <= q
 ·exact x p q hp hpq hq h h1 h2
 ·exact s p q (by omega) hpq (by omega) h1 h2
theorem Cut.small {A B:Nat} (x:Cut c A B a b G) (s:b <= a+1):Srt c A B G:=x.join fun p q _ _ _ _ _=>by omega
theorem zqq {M:List X} (hab:a <= b) (hb:b <= G.length) (hp:M.Perm ((G.take b).drop a)):zcg a b G (G.take a++(M++G.drop b)):=by
 have hl:=hp.length_eq
 simp only [List.length_drop,List.length_take] at hl
 refine ⟨?_,fun i hi=> ?_⟩
 ·have:=(hp.append_right (G.drop b)).append_left (G.take a)
  rw [<- split3 hab G] at this;exact this
 ·rcases hi with hi|hi
  ·rw [List.getElem?_append_left (by rw [List.length_take];omega),List.getElem?_take,if_pos hi]
  ·rw [List.getElem?_append_right (by rw [List.length_take];omega),List.getElem?_append_right (by rw [List.length_take];omega),List.getElem?_drop,List.length_take]
   congr 1;omega
theorem srt_mid {M:List X} (hab:a <= b) (hb:b <= G.length) (hl:M.length=b-a) (hp:M.Pairwise fun x y=> ¬ c y x<0):Srt c a b (G.take a++(M++G.drop b)):=fun p q hp1 hpq hq h1 h2=>by
 have e: ∀ k (h1:a <= k) (h2:k<b) (hk:k<(G.take a++(M++G.drop b)).length),(G.take a++(M++G.drop b))[k]=M[k-a]'(by omega):=fun k h1 h2 hk=>by
  rw [List.getElem_append_right (by rw [List.length_take];omega),List.getElem_append_left (by rw [List.length_take];omega)]
  congr 1;rw [List.length_take];omega
 rw [e p hp1 (by omega),e q (by omega) hq]
 exact List.pairwise_iff_getElem.1 hp _ _ _ _ (by omega)
end
variable {C:CSem}
abbrev SiftI (C:CSem) (E:zz) (f1:Nat):Prop:= ∀ (v0 v1 v2 v3 v4:AVal) (h:za) (Q:zQ),zbh.cps C E v0 v1 v2 v3 v4 h (dn Q)->C f1 [v0,v1,v2,v3,v4] h Q
section
variable {E:zz} {X:Type} {cs:X->List AVal} {v:X->AVal} {h0 h:za} {x f:AVal} {G:List X} {R:List (List AVal)} {c:X->X->Int} {Q:zQ} {a b:Nat}
theorem zkm (S:zc0 E cs v) (W:Weak (zd9 c)) (hc:zdm C v c f h0) (ho:Rw E cs h0 h x G R) (hl:G.length <= 100000000) (hab:a <= b) (hb:b <= G.length)
  (hq: ∀ h' G',zcg a b G G'->Srt c a b G'->Rw E cs h0 h' x G' R->Q (.tup []) h'):zbf.cps C E x (.int .i64 (a:Int)) (.int .i64 (b:Int)) f h Q:=by
 have e0: ∀ (L:List X),(L.map (fun y=>(y,0))).map (fun p:X×Nat=>cs p.1)=L.map cs:=fun L=>by rw [List.map_map];rfl
 have e1: ∀ (L:List (X×Nat)),L.map (fun p:X×Nat=>cs p.1)=(L.map (·.1)).map cs:=fun L=>by rw [List.map_map];rfl
 have lt:(G.take a).length=a:=by rw [List.length_take];omega
 have lm:((G.take b).drop a).length=b-a:=by rw [List.length_drop,List.length_take];omega
 refine zht (P:=(G.take a).map (fun y=>(y,0))) (M:=((G.take b).drop a).zipIdx) (U:=(G.drop b).map (fun y=>(y,0))) S W ?_ ?_ hc ?_ ?_ ?_ ?_ (R:=R) (h0:=h0)
 ·simp only [List.length_append,List.length_map,List.length_zipIdx,lt,lm,List.length_drop];omega
 ·have:(((G.take b).drop a).zipIdx.map (·.2)).Pairwise (· < ·):=by
   rw [List.zipIdx_map_snd];exact List.pairwise_lt_range'
  rwa [List.pairwise_map] at this
 ·rw [List.length_map,lt]
 ·rw [List.length_map,List.length_zipIdx,lt,lm];omega
 ·unfold Rw
  rw [List.map_append,List.map_append,e0,e0,e1,List.zipIdx_map_fst, <- List.map_append, <- List.map_append, <- split3 hab G]
  exact ho
 ·intro h' M' hp hs ho'
  have hp':(M'.map (·.1)).Perm ((G.take b).drop a):=by
   have:=hp.map (·.1);rwa [List.zipIdx_map_fst] at this
  refine hq h' (G.take a++(M'.map (·.1)++G.drop b)) (zqq hab hb hp') (srt_mid hab hb (by rw [hp'.length_eq,lm]) ?_) ?_
  ·rw [List.pairwise_map]
   refine hs.imp fun {x y} hxy=> ?_
   have hx:zd9 c y.1 x.1=false:=hxy.elim (fun h=>W.asym h) fun ⟨h,_⟩=>h
   unfold zd9 at hx;exact of_decide_eq_false hx
  ·unfold Rw at ho' ⊢
   rw [List.map_append,List.map_append,e0,e0,e1] at ho'
   rwa [List.map_append,List.map_append]
theorem zkn {f1:Nat} (is:SiftI C E f1) (S:zc0 E cs v) (W:Weak (zd9 c)) (hc:zdm C v c f h0) (ho:Rw E cs h0 h x G R) (hl:G.length <= 100000000) (hab:a<b) (hb:b <= G.length)
  (hq: ∀ h' G',zcg a b G G'->Srt c a b G'->Rw E cs h0 h' x G' R->Q (.tup []) h'):zbb.cps C E f1 x (.int .i64 (a:Int)) (.int .i64 (b:Int)) f h Q:=by
 have e1:=zfq (a:=b) (b:=a) (by omega) (by omega)
 obtain ⟨n,hn⟩: ∃ n,n=b-a:=⟨_,rfl⟩
 have e2:V.bin .quo (.int .i64 ((n-1:Nat):Int)) (.int .i64 2)=some (.int .i64 (((n-1) / 2:Nat):Int)):=by
  rw [V.zkr _ _ _ (by omega),show ((n-1:Nat):Int).tdiv 2=(((n-1) / 2:Nat):Int) from rfl,wrap_i64 (by omega) (by omega)]
 have m1: ∀ k:Nat,k <= 100000000->V.bin .sub (.int .i64 (k:Int)) (.int .i64 1)=some (.int .i64 ((k:Int)-1)):=fun k hk=>by
  rw [V.zgt,wrap_i64 (by omega) (by omega)]
 have m2: ∀ k:Nat,k <= 100000000->V.bin .sub (.int .i64 ((k+1:Nat)-1:Int)) (.int .i64 1)=some (.int .i64 ((k:Int)-1)):=fun k hk=>by
  rw [V.zgt,wrap_i64 (by omega) (by omega)];congr 2;omega
 simp -dsimp only [zbb.cps,zbb.k5,e1,B.zd]
 rw [<- hn]
 simp -dsimp only [sub1 (show 1 <= n by omega) (by omega),e2,B.zd]
 refine zw.intro (fun t vs hh=> ∃ (G':List X),vs=[.int .i64 ((t:Int)-1)] /\ t <= n /\ Heap c a n t G' /\ zcg a b G G' /\ Rw E cs h0 hh x G' R) ((n-1) / 2+1) ?_ ⟨G,by congr 2;omega,by omega,Heap.none_ (by omega),zcg.refl _ _ _,ho⟩
 rintro Y t vs hh ⟨G1,rfl,htn,p1,W1,o1⟩ hY
 have l1:=W1.len
 simp -dsimp only [zbb.l4,zbb.k3,V.zgb,B.zd]
 cases t with
 | succ k=>
  rw [show decide ((0:Int) <= ((k+1:Nat):Int)-1)=true by simp,B.cond_true,show (((k+1:Nat):Int)-1)=(k:Int) by omega]
  refine is _ _ _ _ _ _ _ (zhk (b:=b) S W hc o1 (by omega) (p1.sinv (by omega)) (Nat.le_refl _) (by omega) (by omega) fun h2 G2 p2 w2 o2=>zbu ?_)
  simp -dsimp only [m1 k (by omega),B.zd]
  exact hY k _ _ (by omega) ⟨G2,rfl,by omega,p2,W1.trans w2,o2⟩
 | zero=>
  rw [show decide ((0:Int) <= ((0:Nat):Int)-1)=false by simp,B.cond_false]
  simp -dsimp only [m1 n (by omega),B.zd]
  refine zw.intro (fun t vs hh=> ∃ (G':List X),vs=[.int .i64 ((t:Int)-1)] /\ t <= n /\ Heap c a t 0 G' /\ Cut c a b a (a+t) G' /\ zcg a b G G' /\ Rw E cs h0 hh x G' R) n ?_ ⟨G1,rfl,Nat.le_refl _,p1,fun p q _ _ h3 h4=>by omega,W1,o1⟩
  rintro Z t vs hh ⟨G2,rfl,htn,p2,c2,W2,o2⟩ hZ
  have l2:=W2.len
  simp -dsimp only [zbb.l2,zbb.k1,V.zgb,B.zd]
  cases t with
  | zero=>
   rw [show decide ((0:Int) <= ((0:Nat):Int)-1)=false by simp,B.cond_false]
   exact hq hh G2 W2 (c2.small (by omega)) o2
  | succ k=>
   rw [show decide ((0:Int) <= ((k+1:Nat):Int)-1)=true by simp,B.cond_true,show (((k+1:Nat):Int)-1)=(k:Int) by omega]
   have ac:=zh3 (a:=a) (b:=k) (by omega)
   have la:a<G2.length:=by omega
   have lk:a+k<G2.length:=by omega
   simp -dsimp only [ac,o2.idx la,o2.idx lk,B.zd]
   refine o2.ld S (List.getElem?_eq_getElem lk) ?_
   refine o2.ld S (List.getElem?_eq_getElem la) ?_
   refine o2.swap S la lk fun h3 o3=> ?_
   have hsl:=zg4 la lk
   have w3:zcg a (a+(k+1)) G2 (swp G2 a (a+k) la lk):=zds la lk (by omega) (by omega) (by omega) (by omega)
   have c3:=c2.within w3 (Nat.le_refl _) (by omega)
   have c4:Cut c a b a (a+k) (swp G2 a (a+k) la lk):=fun p q h1 h2 h3 h4 h5 h6=>by
    by_cases e:a+(k+1) <= q
    ·exact c3 p q h1 h2 h3 (.inr e) h5 h6
    ·have:q=a+k:=by omega
     subst this
     rw [zfp la lk h6 (by omega),if_pos rfl,zfp la lk h5 (by omega),if_neg (by omega)]
     split
     ·exact p2.root W (by omega) k (by omega)
     ·have:=p2.root W (by omega) (p-a) (by omega)
      simpa only [show a+(p-a)=p by omega] using this
   have s3:SInv c a k 0 0 (swp G2 a (a+k) la lk):=⟨by omega,fun j j0 hj _ hne h1 h2=>by
    rw [zfp la lk h1 (by omega),if_neg (by omega),if_neg (by omega),zfp la lk h2 (by omega),if_neg (by omega),if_neg (by omega)]
    exact p2 j j0 (by omega) (by omega) (by omega) (by omega),fun _ h=>by omega⟩
   refine is _ _ _ _ _ _ _ (zhk (r:=0) (b:=a+k) S W hc o3 (by omega) s3 (Nat.le_refl _) (by omega) (by omega) fun h4 G4 p4 w4 o4=>zbu ?_)
   simp -dsimp only [m1 k (by omega),B.zd]
   exact hZ k _ _ (by omega) ⟨G4,rfl,by omega,p4,c4.within w4 (Nat.le_refl _) (by omega),(W2.trans (w3.mono (Nat.le_refl _) (by omega))).trans (w4.mono (Nat.le_refl _) (by omega)),o4⟩
end
end Go.Ab
namespace Go.Ab
variable {C:CSem}
def Pre {X:Type} (c:X->X->Int) (a b:Nat) (G:List X):Prop:=0<a-> ∀ i,a <= i->i<b-> ∀ (h1:i<G.length) (h2:a-1<G.length),¬ c G[i] G[a-1]<0
theorem Pre.within {X:Type} {c:X->X->Int} {a b:Nat} {G G':List X} (p:Pre c a b G) (w:zcg a b G G'):Pre c a b G':=fun h0 i h1 h2 h3 h4=>by
 have hl:=w.len
 obtain ⟨k,k1,k2,k3,e⟩:=w.mem h1 h2 h3
 rw [e,w.same (k:=a-1) (.inl (by omega)) h4 (by omega)]
 exact p h0 k k1 k2 _ _
def But1 {X:Type} (c:X->X->Int) (A B j:Nat) (G:List X):Prop:= ∀ p q,A <= p->p<q->q<B->q≠j-> ∀ (h1:p<G.length) (h2:q<G.length),¬ c G[q] G[p]<0
section
variable {X:Type} {c:X->X->Int} {A B j:Nat} {G:List X}
theorem But1.done (W:Weak (zd9 c)) (x:But1 c A B j G) (hj:j<G.length) (h:j <= A \/ ∀ (h1:j-1<G.length),¬ c G[j] G[j-1]<0):Srt c A B G:=fun p q h1 h2 h3 h4 h5=>by
 by_cases e:q=j
 ·subst e
  have h:=h.resolve_left (by omega)
  by_cases e2:p=q-1
  ·subst e2;exact h _
  ·have k1:=x p (q-1) h1 (by omega) (by omega) (by omega) h4 (by omega)
   have:=W.zl2 (a:=G[q]) (b:=G[q-1]'(by omega)) (c:=G[p]) (by unfold zd9;exact decide_eq_false (h _)) (by unfold zd9;exact decide_eq_false k1)
   unfold zd9 at this;exact of_decide_eq_false this
 ·exact x p q h1 h2 h3 e h4 h5
theorem But1.step (W:Weak (zd9 c)) (x:But1 c A B j G) (hA:A<j) (hj:j<G.length) (hj1:j-1<G.length) (hlt:c G[j] G[j-1]<0):But1 c A B (j-1) (swp G j (j-1) hj hj1):=fun p q h1 h2 h3 h4 h5 h6=>by
 have hl:=zg4 hj hj1
 rw [zfp hj hj1 h6 (by omega),if_neg h4,zfp hj hj1 h5 (by omega)]
 by_cases e:q=j
 ·rw [if_pos e]
  split
  ·have:=W.asym (a:=G[j]) (b:=G[j-1]) (by unfold zd9;exact decide_eq_true hlt)
   unfold zd9 at this;exact of_decide_eq_false this
  ·rw [if_neg (by omega)];exact x p (j-1) h1 (by omega) (by omega) (by omega) (by omega) hj1
 ·rw [if_neg e]
  split
  ·exact x j q (by omega) (by omega) h3 e hj (by omega)
  ·split
   ·exact x (j-1) q (by omega) (by omega) h3 e hj1 (by omega)
   ·exact x p q h1 h2 h3 e (by omega) (by omega)
end
section
variable {E:zz} {X:Type} {cs:X->List AVal} {v:X->AVal} {h0 h:za} {x f:AVal} {G:List X} {R:List (List AVal)} {c:X->X->Int} {Q:zQ} {Y1:zL} {a b i s:Nat}
theorem pis_k3 (S:zc0 E cs v) (hc:zdm C v c f h0) (ho:Rw E cs h0 h x G R) (hl:G.length <= 100000000) (hi0:0<i) (hi:i<b) (hb:b <= G.length) (hs:s <= 5)
  (hY: ∀ h' G',zcg i b G G'->Rw E cs h0 h' x G' R->Y1 [.int .i64 (i:Int),.int .i64 ((s+1:Nat):Int)] h'):
  zb.k3 C E Q Y1 x (.int .i64 (a:Int)) (.int .i64 (b:Int)) f (.int .i64 (i:Int)) (.int .i64 (s:Int)) h:=by
 have hge:V.bin .geq (.int .i64 ((b-i:Nat):Int)) (.int .i64 2)=some (.bool (decide (2 <= b-i))):=geqN (b:=2)
 simp -dsimp only [zb.k3,zfq (show i <= b by omega) (by omega),hge,add1 (show s<4611686018427387904 by omega),add1 (show i<4611686018427387904 by omega),B.zd]
 refine B.zr (fun hd=> ?_) (fun hd=> ?_)
 rotate_left
 ·simp -dsimp only [add1 (show s<4611686018427387904 by omega),B.zd]
  exact hY h G (zcg.refl _ _ _) ho
 rw [decide_eq_true_eq] at hd
 simp -dsimp only [add1 (show i<4611686018427387904 by omega),B.zd]
 refine zw.intro (fun t vs hh=> ∃ (j:Nat) (G':List X),j+t=b /\ vs=[.int .i64 (j:Int)] /\ i<j /\ zcg i b G G' /\ Rw E cs h0 hh x G' R) (b-(i+1)) ?_ ⟨i+1,G,by omega,rfl,by omega,zcg.refl _ _ _,ho⟩
 rintro Y t vs hh ⟨j,G1,hjt,rfl,hij,W1,o⟩ hY2
 have hlen:=W1.len
 simp -dsimp only [zb.l2,zb.k1,lssN,B.zd]
 refine B.zr (fun he=> ?_) (fun he=> ?_)
 ·rw [decide_eq_true_eq] at he
  have lj:j<G1.length:=by omega
  have lj1:j-1<G1.length:=by omega
  have sj:=sub1 (a:=j) (by omega) (by omega)
  simp -dsimp only [sj,o.idx lj,o.idx lj1,B.zd]
  refine o.ld S (List.getElem?_eq_getElem lj) ?_
  refine o.ld S (List.getElem?_eq_getElem lj1) ?_
  refine hc.call _ _ _ _ o.le ?_
  simp -dsimp only [V.zec,V.zf5,B.zd]
  refine B.zr (fun hd=> ?_) (fun hd=> ?_)
  ·simp -dsimp only [add1 (show s<4611686018427387904 by omega),B.zd]
   exact hY hh G1 W1 o
  ·simp -dsimp only [sj,o.idx lj,o.idx lj1,B.zd]
   refine o.ld S (List.getElem?_eq_getElem lj1) ?_
   refine o.ld S (List.getElem?_eq_getElem lj) ?_
   refine o.swap S lj lj1 fun h2 o2=> ?_
   simp -dsimp only [add1 (show j<4611686018427387904 by omega),B.zd]
   exact hY2 (b-(j+1)) _ _ (by omega) ⟨j+1,_,by omega,rfl,by omega,W1.trans (zds lj lj1 (by omega) (by omega) (by omega) (by omega)),o2⟩
 ·simp -dsimp only [add1 (show s<4611686018427387904 by omega),B.zd]
  exact hY hh G1 W1 o
theorem pis_k6 (S:zc0 E cs v) (W:Weak (zd9 c)) (hc:zdm C v c f h0) (ho:Rw E cs h0 h x G R) (hl:G.length <= 100000000) (hai:a<i) (hi:i<b) (hb:b <= G.length) (hs:s <= 5) (hp:Pre c a b G) (h1:But1 c a i (i-1) G)
  (hY: ∀ h' G',zcg a b G G'->Srt c a i G'->Rw E cs h0 h' x G' R->Y1 [.int .i64 (i:Int),.int .i64 ((s+1:Nat):Int)] h'):
  zb.k6 C E Q Y1 x (.int .i64 (a:Int)) (.int .i64 (b:Int)) f (.int .i64 (i:Int)) (.int .i64 (s:Int)) h:=by
 have fin: ∀ {hh G1},Rw E cs h0 hh x G1 R->zcg a b G G1->Srt c a i G1->zb.k3 C E Q Y1 x (.int .i64 (a:Int)) (.int .i64 (b:Int)) f (.int .i64 (i:Int)) (.int .i64 (s:Int)) hh:=fun {hh G1} o W1 s1=>by
  have l1:=W1.len
  refine pis_k3 S hc o (by omega) (by omega) hi (by omega) hs fun h2 G2 W2 o2=>hY h2 G2 (W1.trans (W2.mono (by omega) (Nat.le_refl _))) (fun p q h1 h2 h3 h4 h5=> ?_) o2
  have l2:=W2.len
  rw [W2.same (k:=p) (.inl (by omega)) h4 (by omega),W2.same (k:=q) (.inl (by omega)) h5 (by omega)]
  exact s1 p q h1 h2 h3 _ _
 have hge:V.bin .geq (.int .i64 ((i-a:Nat):Int)) (.int .i64 2)=some (.bool (decide (2 <= i-a))):=geqN (b:=2)
 simp -dsimp only [zb.k6,zfq (show a <= i by omega) (by omega),hge,sub1 (show 1 <= i by omega) (by omega),B.zd]
 refine B.zr (fun hd=> ?_) (fun hd=> ?_)
 ·simp -dsimp only [sub1 (show 1 <= i by omega) (show i<4611686018427387904 by omega),B.zd]
  refine zw.intro (fun t vs hh=> ∃ (G':List X),vs=[.int .i64 (t:Int)] /\ a <= t /\ t<i /\ But1 c a i t G' /\ zcg a b G G' /\ Rw E cs h0 hh x G' R) (i-1) ?_ ⟨G,rfl,by omega,by omega,h1,zcg.refl _ _ _,ho⟩
  rintro Y j vs hh ⟨G1,rfl,haj,hji,b1,W1,o⟩ hY2
  have hlen:=W1.len
  have lj:j<G1.length:=by omega
  have hg1:V.bin .geq (.int .i64 (j:Int)) (.int .i64 1)=some (.bool (decide (1 <= j))):=geqN (b:=1)
  simp -dsimp only [zb.l5,zb.k4,hg1,B.zd]
  refine B.zr (fun he=> ?_) (fun he=> ?_)
  ·rw [decide_eq_true_eq] at he
   have lj1:j-1<G1.length:=by omega
   have sj:=sub1 (a:=j) (by omega) (by omega)
   simp -dsimp only [sj,o.idx lj,o.idx lj1,B.zd]
   refine o.ld S (List.getElem?_eq_getElem lj) ?_
   refine o.ld S (List.getElem?_eq_getElem lj1) ?_
   refine hc.call _ _ _ _ o.le ?_
   simp -dsimp only [V.zec,V.zf5,B.zd]
   refine B.zr (fun hd=> ?_) (fun hd=> ?_)
   ·exact fin o W1 (b1.done W lj (.inr fun _=>by simpa using hd))
   ·have hlt:c G1[j] G1[j-1]<0:=by simpa using hd
    have haj2:a<j:=by
     rcases Nat.lt_or_ge a j with k|k
     ·exact k
     ·have:j=a:=by omega
      subst this
      exact absurd hlt ((hp.within W1) (by omega) j (Nat.le_refl _) (by omega) _ _)
    simp -dsimp only [sj,o.idx lj,o.idx lj1,B.zd]
    refine o.ld S (List.getElem?_eq_getElem lj1) ?_
    refine o.ld S (List.getElem?_eq_getElem lj) ?_
    refine o.swap S lj lj1 fun h2 o2=> ?_
    exact hY2 (j-1) _ _ (by omega) ⟨_,rfl,by omega,by omega,b1.step W haj2 lj lj1 hlt,W1.trans (zds lj lj1 (by omega) (by omega) (by omega) (by omega)),o2⟩
  ·rw [decide_eq_false_iff_not] at he
   exact fin o W1 (b1.done W lj (.inl (by omega)))
 ·rw [decide_eq_false_iff_not] at hd
  exact fin ho (zcg.refl _ _ _) fun p q _ _ _ _ _=>by omega
theorem zft (S:zc0 E cs v) (W:Weak (zd9 c)) (hc:zdm C v c f h0) (ho:Rw E cs h0 h x G R) (hl:G.length <= 100000000) (hab:a<b) (hb:b <= G.length) (hp:Pre c a b G)
  (hq: ∀ h' G' t,zcg a b G G'->(t=true->Srt c a b G')->Rw E cs h0 h' x G' R->Q (.bool t) h'):
  zb.cps C E x (.int .i64 (a:Int)) (.int .i64 (b:Int)) f h Q:=by
 simp -dsimp only [zb.cps,add1 (show a<4611686018427387904 by omega),B.zd]
 refine zw.intro (fun t vs hh=> ∃ (s i:Nat) (G':List X),s+t=5 /\ vs=[.int .i64 (i:Int),.int .i64 (s:Int)] /\ a<i /\ i <= b /\ Srt c a i G' /\ zcg a b G G' /\ Rw E cs h0 hh x G' R) 5 ?_ ⟨0,a+1,G,rfl,rfl,by omega,by omega,fun p q _ _ _ _ _=>by omega,zcg.refl _ _ _,ho⟩
 rintro Y t vs hh ⟨s,i,G1,hst,rfl,hai,hib,s1,W1,o⟩ hY
 have hl1:=W1.len
 have h5:V.bin .lss (.int .i64 (s:Int)) (.int .i64 5)=some (.bool (decide (s<5))):=lssN (b:=5)
 simp -dsimp only [zb.l12,zb.k11,h5,B.zd]
 refine B.zr (fun hd=> ?_) (fun hd=>hq hh G1 false W1 (fun h=>by cases h) o)
 rw [decide_eq_true_eq] at hd
 refine zw.intro (fun t vs hh=> ∃ (i:Nat),i+t=b /\ vs=[.int .i64 (i:Int)] /\ a<i /\ Srt c a i G1 /\ Rw E cs h0 hh x G1 R) (b-i) ?_ ⟨i,by omega,rfl,hai,s1,o⟩
 rintro Z t vs hh ⟨i,hit,rfl,hai,s2,o2⟩ hZ
 simp -dsimp only [zb.l10,zb.k9,lssN,B.zd]
 by_cases hd2:i<b
 ·have li:i<G1.length:=by omega
  have li1:i-1<G1.length:=by omega
  have si:=sub1 (a:=i) (by omega) (by omega)
  simp -dsimp only [hd2,decide_true,B.gd_t,B.zce,si,o2.idx li,o2.idx li1,B.zd]
  refine o2.ld S (List.getElem?_eq_getElem li) ?_
  refine o2.ld S (List.getElem?_eq_getElem li1) ?_
  refine hc.call _ _ _ _ o2.le ?_
  simp -dsimp only [hd2,decide_true,B.gd_t,B.zce,V.zec,V.zf5,B.zev,B.zd]
  refine B.zr (fun he=> ?_) (fun he=> ?_)
  ·have hnl: ¬ c G1[i] G1[i-1]<0:=by simpa using he
   simp -dsimp only [add1 (show i<4611686018427387904 by omega),B.zd]
   refine hZ (t-1) _ _ (by omega) ⟨i+1,by omega,rfl,by omega,?_,o2⟩
   exact But1.done W (j:=i) (fun p q h1 h2 h3 h4 h5 h6=>s2 p q h1 h2 (by omega) h5 h6) li (.inr fun _=>hnl)
  ·have hlt:c G1[i] G1[i-1]<0:=by simpa using he
   have hne:V.bin .eql (.int .i64 (i:Int)) (.int .i64 (b:Int))=some (.bool false):=by rw [V.zfy];simp;omega
   simp -dsimp only [hne,B.zd,B.cond_false,zb.k8,zb.k7,zfq (show a <= b by omega) (show b<4611686018427387904 by omega)]
   rw [show V.bin .lss (.int .i64 ((b-a:Nat):Int)) (.int .i64 50)=some (.bool (decide (b-a<50))) from lssN (b:=50)]
   simp -dsimp only [B.zd]
   refine B.zr (fun hf=>hq hh G1 false W1 (fun h=>by cases h) o2) (fun hf=> ?_)
   simp -dsimp only [zb.k7,si,o2.idx li,o2.idx li1,B.zd]
   refine o2.ld S (List.getElem?_eq_getElem li1) ?_
   refine o2.ld S (List.getElem?_eq_getElem li) ?_
   refine o2.swap S li li1 fun h3 o3=> ?_
   have hsl:=zg4 li li1
   have w3:zcg a b G1 (swp G1 i (i-1) li li1):=zds li li1 (by omega) (by omega) (by omega) (by omega)
   have W3:=W1.trans w3
   refine pis_k6 S W hc o3 (by omega) hai hd2 (by omega) (by omega) (hp.within W3) (fun p q h1 h2 h3 h4 h5 h6=> ?_) fun h4 G4 W4 s4 o4=>hY (5-(s+1)) _ _ (by omega) ⟨s+1,i,G4,by omega,rfl,hai,by omega,s4,W3.trans W4,o4⟩
   rw [zfp li li1 h6 (by omega),if_neg h4,if_neg (by omega),zfp li li1 h5 (by omega),if_neg (by omega),if_neg (by omega)]
   exact s2 p q h1 h2 h3 _ _
 ·have e:i=b:=by omega
  subst e
  have heq:V.bin .eql (.int .i64 (i:Int)) (.int .i64 (i:Int))=some (.bool true):=by rw [V.zfy];simp
  simp -dsimp only [hd2,decide_false,B.gd_t,B.zdw,B.ze2,B.cond_false,heq,B.cond_true,B.zd]
  exact hq hh G1 true W1 (fun _=>s2) o2
end
end Go.Ab
namespace Go.Ab
variable {C:CSem} {N:zN}
def be (n:Int):Nat->List UInt8
 | 0=>[]
 | k+1=>byt (n.fdiv (2 ^ (8*k)))::be n k
@[simp] theorem be_len (n:Int): ∀ k,(be n k).length=k
 | 0=>rfl
 | k+1=>by simp [be,be_len n k]
end Go.Ab
namespace Go.Ab
variable {C:CSem} {N:zN}
structure Rdr where
 at_:Nat
 bad:Bool
theorem bin_shl {k j:IntKind} {a b:Int} (h0:0 <= b) (h1:b<k.bits):V.bin .shl (.int k a) (.int j b)=some (.int k (k.wrap (a*2 ^ b.toNat))):=by
 simp only [V.bin,V.shift]
 rw [if_neg (by omega),Nat.min_eq_left (by omega)]
end Go.Ab
namespace Go.Ab
variable {C:CSem} {N:zN}
theorem V.bin_xor (k:IntKind) (a b:Int):V.bin .xor (.int k a) (.int k b)=some (.int k (k.wrap (BitVec.ofInt k.bits a ^^^ BitVec.ofInt k.bits b).toNat)):=by simp [V.bin,V.arith]
theorem V.bin_and (k:IntKind) (a b:Int):V.bin .and (.int k a) (.int k b)=some (.int k (k.wrap (BitVec.ofInt k.bits a &&& BitVec.ofInt k.bits b).toNat)):=by simp [V.bin,V.arith]
theorem wrapU {n:Nat} (h:n<18446744073709551616):IntKind.u64.wrap (n:Int)=n:=by rw [wrap_u64];omega
theorem toUN {n:Nat} (h:n<18446744073709551616):V.toInt .u64 (.int .i64 (n:Int))=some (.int .u64 (n:Int)):=by rw [V.toInt_int,wrapU h]
theorem toIN {k:IntKind} {n:Nat} (h:n<4611686018427387904):V.toInt .i64 (.int k (n:Int))=some (.int .i64 (n:Int)):=by rw [V.toInt_int,wrap_i64 (by omega) (by omega)]
theorem and_le {z:Int} {m:Nat} (h:m<4611686018427387904): ∃ o:Nat,o <= m /\ V.bin .and (.int .u64 z) (.int .u64 (m:Int))=some (.int .u64 (o:Int)):=by
 refine ⟨(BitVec.ofInt 64 z &&& BitVec.ofInt 64 (m:Int)).toNat,?_,?_⟩
 ·rw [BitVec.toNat_and]
  refine Nat.le_trans Nat.and_le_right ?_
  rw [BitVec.toNat_ofInt];omega
 ·rw [V.bin_and]
  show some (AVal.int .u64 (IntKind.u64.wrap ((BitVec.ofInt 64 z &&& BitVec.ofInt 64 (m:Int)).toNat:Int)))=_
  rw [wrapU (BitVec.isLt _)]
def lenT:List UInt8:=[0,1,2,2,3,3,3,3,4,4,4,4,4,4,4,4,5,5,5,5,5,5,5,5,5,5,5,5,5,5,5,5,6,6,6,6,6,6,6,6,6,6,6,6,6,6,6,6,6,6,6,6,6,6,6,6,6,6,6,6,6,6,6,6,7,7,7,7,7,7,7,7,7,7,7,7,7,7,7,7,7,7,7,7,7,7,7,7,7,7,7,7,7,7,7,7,7,7,7,7,7,7,7,7,7,7,7,7,7,7,7,7,7,7,7,7,7,7,7,7,7,7,7,7,7,7,7,7,8,8,8,8,8,8,8,8,8,8,8,8,8,8,8,8,8,8,8,8,8,8,8,8,8,8,8,8,8,8,8,8,8,8,8,8,8,8,8,8,8,8,8,8,8,8,8,8,8,8,8,8,8,8,8,8,8,8,8,8,8,8,8,8,8,8,8,8,8,8,8,8,8,8,8,8,8,8,8,8,8,8,8,8,8,8,8,8,8,8,8,8,8,8,8,8,8,8,8,8,8,8,8,8,8,8,8,8,8,8,8,8,8,8,8,8,8,8,8,8,8,8,8,8,8,8,8,8]
theorem idxStr_u8 {s:List UInt8} {k:Nat} {b:UInt8} (hb:s[k]? =some b):V.zm8 (.str s) (.int .u8 (k:Int))=some (.int .u8 b.toNat):=by
 simp [V.zm8,hb]
theorem lenT_all: ∀ k:Fin 256,∃ b:Fin 9,lenT[k.val]? =some (UInt8.ofNat b.val) /\ (0<k.val->2 ^ b.val <= 2*k.val):=by decide +kernel
theorem lenTab {k:Nat} (h:k<256): ∃ b:Nat,V.zm8 (.str lenT) (.int .u8 (k:Int))=some (.int .u8 (b:Int)) /\ b <= 8 /\ (0<k->2 ^ b <= 2*k):=by
 obtain ⟨b,e,hb⟩:=lenT_all ⟨k,h⟩
 have hb9:=b.isLt
 refine ⟨b.val,?_,by omega,hb⟩
 rw [idxStr_u8 e]
 congr 2
 rw [UInt8.toNat_ofNat',Nat.mod_eq_of_lt (by omega)]
theorem Len64_k1 {Q:zQ} {v0 v2:AVal} {h:za}:zbv.k1 C N Q v0 v2 h=(B.pv (V.toInt .u8 v0) fun v21=>
  B.pv (V.zm8 (.str lenT) v21) fun v22=>
  B.pv (V.toInt .i64 v22) fun v23=>
  B.pv (V.bin .add v2 v23) fun v24=>
  Q v24 h):=rfl
theorem Len64_spec {x:Nat} (hx:x <= 100000000) {h:za} {Q:zQ} (hq: ∀ r:Nat,r <= 32->(0<x->2 ^ r <= 2*x)->Q (.int .i64 (r:Int)) h):zbv.cps C N (.int .u64 (x:Int)) h Q:=by
 have fin: ∀ (y s:Nat),y<256->s <= 24->(0<x->0<y)->2 ^ s*y <= x->zbv.k1 C N Q (.int .u64 (y:Int)) (.int .i64 (s:Int)) h:=fun y s hy hs h0 hle=>by
  obtain ⟨b,e,hb,hp⟩:=lenTab hy
  have e1:V.toInt .u8 (.int .u64 (y:Int))=some (.int .u8 (y:Int)):=by rw [V.toInt_int,wrap_u8];congr 2;omega
  rw [Len64_k1]
  simp -dsimp only [e1,B.zd,e,toIN (show b<4611686018427387904 by omega),zh3 (show s+b<4611686018427387904 by omega)]
  refine hq (s+b) (by omega) fun hx0=> ?_
  have h1:=hp (h0 hx0)
  have h2:2 ^ s*2 ^ b <= 2 ^ s*(2*y):=Nat.mul_le_mul_left _ h1
  rw [Nat.pow_add]
  have h3:2 ^ s*(2*y)=2*(2 ^ s*y):=by rw [Nat.mul_left_comm]
  omega
 have sh: ∀ (y j:Nat),j<64->V.bin .shr (.int .u64 (y:Int)) (.int .u64 (j:Int))=some (.int .u64 ((y / 2 ^ j:Nat):Int)):=fun y j hj=>by
  rw [bin_shr (by omega) (by simp [IntKind.bits];omega),Int.toNat_natCast]
  congr 2
  rw [Int.fdiv_eq_ediv_of_nonneg _ (by exact_mod_cast Nat.zero_le (2 ^ j))]
  simp
 have g3:V.bin .geq (.int .u64 (x:Int)) (.int .u64 4294967296)=some (.bool false):=by rw [V.zgb];simp;omega
 have gk: ∀ y m:Nat,V.bin .geq (.int .u64 (y:Int)) (.int .u64 (m:Int))=some (.bool (decide (m <= y))):=fun y m=>by rw [V.zgb];congr 3;exact propext (by omega)
 have low: ∀ (y s:Nat),y<65536->s <= 16->(0<x->0<y)->2 ^ s*y <= x->zbv.k2 C N Q (.int .u64 (y:Int)) (.int .i64 (s:Int)) h:=fun y s hy hs h0 hle=>by
  have g1:V.bin .geq (.int .u64 (y:Int)) (.int .u64 256)=some (.bool (decide (256 <= y))):=gk y 256
  have s1:V.bin .shr (.int .u64 (y:Int)) (.int .u64 8)=some (.int .u64 ((y / 2 ^ 8:Nat):Int)):=sh y 8 (by omega)
  have a1:V.bin .add (.int .i64 (s:Int)) (.int .i64 8)=some (.int .i64 ((s+8:Nat):Int)):=zh3 (a:=s) (b:=8) (by omega)
  simp -dsimp only [zbv.k2,g1,B.zd]
  refine B.zr (fun hd=> ?_) (fun hd=> ?_)
  ·rw [decide_eq_true_eq] at hd
   simp -dsimp only [s1,a1,B.zd]
   refine fin (y / 2 ^ 8) (s+8) (by omega) (by omega) (fun _=>by omega) ?_
   rw [Nat.pow_add,Nat.mul_assoc]
   refine Nat.le_trans (Nat.mul_le_mul_left _ ?_) hle
   omega
  ·rw [decide_eq_false_iff_not] at hd
   exact fin y s (by omega) (by omega) h0 hle
 have g2:V.bin .geq (.int .u64 (x:Int)) (.int .u64 65536)=some (.bool (decide (65536 <= x))):=gk x 65536
 have s2:V.bin .shr (.int .u64 (x:Int)) (.int .u64 16)=some (.int .u64 ((x / 2 ^ 16:Nat):Int)):=sh x 16 (by omega)
 simp -dsimp only [zbv.cps,zbv.k4,zbv.k3,g3,g2,s2,B.zd,B.cond_false]
 refine B.zr (fun hd=> ?_) (fun hd=> ?_)
 ·rw [decide_eq_true_eq] at hd
  simp -dsimp only [s2,show V.bin .add (.int .i64 0) (.int .i64 16)=some (.int .i64 ((16:Nat):Int)) from rfl,B.zd]
  exact low (x / 2 ^ 16) 16 (by omega) (by omega) (fun _=>by omega) (by omega)
 ·rw [decide_eq_false_iff_not] at hd
  exact low x 0 (by omega) (by omega) id (by simp)
theorem Len_spec (i:zbv.Imp C N) {x:Nat} (hx:x <= 100000000) {h:za} {Q:zQ} (hq: ∀ r:Nat,r <= 32->(0<x->2 ^ r <= 2*x)->Q (.int .i64 (r:Int)) h):zdy.cps C N (.int .u64 (x:Int)) h Q:=by
 simp -dsimp only [zdy.cps,zdy.k1,B.cond_false]
 exact i _ _ _ (Len64_spec hx fun r h1 h2=>zbu (hq r h1 h2))
def LenI (C:CSem) (f:Nat):Prop:= ∀ (x:Nat) (h:za) (Q:zQ),x <= 100000000->(∀ r:Nat,r <= 32->(0<x->2 ^ r <= 2*x)->Q (.int .i64 (r:Int)) h)->C f [.int .u64 (x:Int)] h Q
theorem zdy.spec (i:zdy.Imp C N) (i2:zbv.Imp C N):LenI C (N 287):=fun x h Q hx hq=>i _ _ _ (Len_spec i2 hx fun r h1 h2=>zbu (hq r h1 h2))
def PowI (C:CSem) (f:Nat):Prop:= ∀ (n:Nat) (h:za) (Q:zQ),0<n->n <= 100000000->(∀ m:Nat,0<m->m <= 2*n->Q (.int .u64 (m:Int)) h)->C f [.int .i64 (n:Int)] h Q
theorem zda.spec (i:zda.Imp C N) (hl:LenI C (N 287)):PowI C (N 299):=fun n h Q h0 hn hq=>by
 apply i
 simp -dsimp only [zda.cps,toUN (show n<18446744073709551616 by omega),B.zd]
 refine hl n h _ hn fun r hr hp=> ?_
 have e:V.bin .shl (.int .u64 1) (.int .i64 (r:Int))=some (.int .u64 ((2 ^ r:Nat):Int)):=by
  rw [bin_shl (by omega) (by simp [IntKind.bits];omega),Int.toNat_natCast]
  have:(1:Int)*2 ^ r=((2 ^ r:Nat):Int):=by simp
  rw [this,wrapU]
  have:=hp h0
  omega
 simp -dsimp only [e,B.zd]
 exact zbu (hq (2 ^ r) (Nat.pos_of_ne_zero (by simp)) (hp h0))
def NextI (C:CSem) (f:Nat):Prop:= ∀ (h0 h:za) (p:AVal) (n:Int) (Q:zQ),Owns h0 h [.box p [.int .u64 n]]->(∀ m m' h',Owns h0 h' [.box p [.int .u64 m']]->Q (.int .u64 m) h')->C f [p] h Q
theorem zcv.spec (i:zcv.Imp C N):NextI C (N 298):=fun h0 h p n Q ho hq=>by
 have key: ∀ {h:za} {n:Int},Owns h0 h [.box p [.int .u64 n]]-> ∃ id,p= .ptr id 0 0 /\ A.ldv h (.ptr id 0 0)=some (.int .u64 n):=fun {h n} ho=>by
  obtain ⟨id,rfl,hb⟩:=ho.zom 0 rfl
  exact ⟨id,rfl,by rw [zk2 hb];rfl⟩
 apply i
 obtain ⟨id,rfl,ld⟩:=key ho
 simp -dsimp only [zcv.cps,zcv.k1,B.zhf,B.ze4,ld,B.zd,bin_shl (k:= .u64) (j:= .u64) (b:=13) (by omega) (by simp [IntKind.bits]),V.bin_xor]
 refine ho.boxSt 0 (off:=0) rfl rfl (by simp) fun h1 o1 _=> ?_
 simp only [List.set_cons_zero] at o1
 obtain ⟨id1,e,ld1⟩:=key o1
 cases e
 simp -dsimp only [B.zhf,B.ze4,ld1,B.zd,bin_shr (k:= .u64) (j:= .u64) (b:=7) (by omega) (by simp [IntKind.bits]),V.bin_xor]
 refine o1.boxSt 0 (off:=0) rfl rfl (by simp) fun h2 o2 _=> ?_
 simp only [List.set_cons_zero] at o2
 obtain ⟨id2,e,ld2⟩:=key o2
 cases e
 simp -dsimp only [B.zhf,B.ze4,ld2,B.zd,bin_shl (k:= .u64) (j:= .u64) (b:=17) (by omega) (by simp [IntKind.bits]),V.bin_xor]
 refine o2.boxSt 0 (off:=0) rfl rfl (by simp) fun h3 o3 _=> ?_
 simp only [List.set_cons_zero] at o3
 obtain ⟨id3,e,ld3⟩:=key o3
 cases e
 simp -dsimp only [B.zhf,B.ze4,ld3,B.zd]
 exact zbu (hq _ _ _ o3)
section
variable {E:zz} {X:Type} {cs:X->List AVal} {v:X->AVal} {h0 h:za} {x f:AVal} {G:List X} {R:List (List AVal)} {Q:zQ} {a b:Nat}
theorem zhy {f1 f2:Nat} (hn:NextI C f1) (hp:PowI C f2) (S:zc0 E cs v) (ho:Rw E cs h0 h x G R) (hl:G.length <= 100000000) (hab:a <= b) (hb:b <= G.length)
  (hq: ∀ h' G',zcg a b G G'->Rw E cs h0 h' x G' R->Q (.tup []) h'):zk.cps C E f1 f2 x (.int .i64 (a:Int)) (.int .i64 (b:Int)) f h Q:=by
 obtain ⟨n,en⟩: ∃ n,n=b-a:=⟨_,rfl⟩
 have e1:=zfq hab (show b<4611686018427387904 by omega)
 rw [<- en] at e1
 have g8:V.bin .geq (.int .i64 (n:Int)) (.int .i64 8)=some (.bool (decide (8 <= n))):=geqN (b:=8)
 simp -dsimp only [zk.cps,zk.k8,e1,g8,B.zd]
 refine B.zr (fun hd=> ?_) (fun hd=>hq h G (zcg.refl _ _ _) ho)
 rw [decide_eq_true_eq] at hd
 simp -dsimp only [zk.k7,toUN (show n<18446744073709551616 by omega),B.zd]
 intro id hid
 have o:=Owns.zpw ho hid [.int .u64 0]
 simp only [List.cons_append,List.nil_append] at o
 refine o.boxSt 1 (off:=0) rfl rfl (by simp) fun h1 o1 _=> ?_
 simp only [List.set_cons_succ,List.set_cons_zero] at o1
 refine hp n _ _ (by omega) (by omega) fun m hm0 hm=> ?_
 have m4:V.bin .quo (.int .i64 (n:Int)) (.int .i64 4)=some (.int .i64 ((n / 4:Nat):Int)):=quo4 (by omega)
 have m2:V.bin .mul (.int .i64 ((n / 4:Nat):Int)) (.int .i64 2)=some (.int .i64 ((n / 4*2:Nat):Int)):=mulN (a:=n / 4) (b:=2) (by omega)
 have m5:V.bin .add (.int .i64 (a:Int)) (.int .i64 ((n / 4*2:Nat):Int))=some (.int .i64 ((a+n / 4*2:Nat):Int)):=zh3 (by omega)
 simp -dsimp only [zk.k6,m4,m2,m5,sub1 (show 1 <= a+n / 4*2 by omega) (by omega),B.zd]
 refine zw.intro (fun t vs hh=> ∃ (i:Nat) (G':List X) (z:Int),i+t=a+n / 4*2+2 /\ vs=[.int .i64 (i:Int)] /\ a <= i /\ zcg a b G G' /\ Owns h0 hh [.sl E.es x (G'.map cs) R,.box (.ptr id 0 0) [.int .u64 z]]) 3 ?_ ⟨a+n / 4*2-1,G,_,by omega,rfl,by omega,zcg.refl _ _ _,o1⟩
 rintro Y t vs hh ⟨i,G1,z,hit,rfl,hai,W1,o2⟩ hY
 have l1:=W1.len
 simp -dsimp only [zk.l5,zk.k4,m4,m2,m5,add1 (show a+n / 4*2<4611686018427387904 by omega),leqN,B.zd]
 refine B.zr (fun he=> ?_) (fun he=>hq hh G1 W1 (o2.sub (by simp)))
 rw [decide_eq_true_eq] at he
 have oo:=Owns.out (l1:=[.sl E.es x (G1.map cs) R]) (l2:=[.box (.ptr id 0 0) [.int .u64 z]]) o2
 simp -dsimp only [zk.k3]
 refine hn _ _ _ _ _ oo.2 fun w z' h3 o3=> ?_
 have o4:=oo.1.join o3
 have s1:V.bin .sub (.int .u64 (m:Int)) (.int .u64 1)=some (.int .u64 ((m-1:Nat):Int)):=by
  rw [V.zgt,show (m:Int)-1=((m-1:Nat):Int) by omega,wrapU (by omega)]
 obtain ⟨ot,hot,ea⟩:=and_le (z:=w) (m:=m-1) (by omega)
 simp -dsimp only [s1,ea,toIN (show ot<4611686018427387904 by omega),B.zd,zk.k2,geqN]
 have fin: ∀ k:Nat,k<n->zk.k1 C E f1 f2 Q Y x (.int .i64 (a:Int)) (.int .i64 (n:Int)) (.ptr id 0 0) (.int .u64 (m:Int)) (.int .i64 (i:Int)) (.int .i64 (k:Int)) h3:=fun k hk=>by
  have la:a+k<G1.length:=by omega
  have li:i<G1.length:=by omega
  have op:=Owns.perm o4 (List.Perm.swap _ _ [])
  have oq:=Owns.out (l1:=[.box (.ptr id 0 0) [.int .u64 z']]) (l2:=[.sl E.es x (G1.map cs) R]) op
  have orw:Rw E cs _ h3 x G1 R:=oq.2
  simp -dsimp only [zk.k1,zh3 (show a+k<4611686018427387904 by omega),orw.idx la,orw.idx li,B.zd]
  refine orw.ld S (List.getElem?_eq_getElem la) ?_
  refine orw.ld S (List.getElem?_eq_getElem li) ?_
  refine orw.swap S li la fun h5 o5=> ?_
  simp -dsimp only [add1 (show i<4611686018427387904 by omega),B.zd]
  have o6:=oq.1.join o5
  exact hY (a+n / 4*2+2-(i+1)) _ _ (by omega) ⟨i+1,_,z',by omega,rfl,by omega,W1.trans (zds li la (by omega) (by omega) (by omega) (by omega)),o6.perm (List.Perm.swap _ _ [])⟩
 refine B.zr (fun hf=> ?_) (fun hf=> ?_)
 ·rw [decide_eq_true_eq] at hf
  simp -dsimp only [zfq hf (show ot<4611686018427387904 by omega),B.zd]
  exact fin (ot-n) (by omega)
 ·rw [decide_eq_false_iff_not] at hf
  exact fin ot (by omega)
end
end Go.Ab
namespace Go.Ab
variable {C:CSem}
section
variable {X:Type} {c:X->X->Int} {a b m A0 Z0:Nat} {G G':List X}
theorem le_of (W:Weak (zd9 c)) {x y z:X} (h1: ¬ c x y<0) (h2: ¬ c y z<0): ¬ c x z<0:=by
 have:=W.zl2 (a:=x) (b:=y) (c:=z) (by unfold zd9;exact decide_eq_false h1) (by unfold zd9;exact decide_eq_false h2)
 unfold zd9 at this;exact of_decide_eq_false this
theorem nlt_of (W:Weak (zd9 c)) {x y:X} (h:c x y<0): ¬ c y x<0:=by
 have:=W.asym (a:=x) (b:=y) (by unfold zd9;exact decide_eq_true h)
 unfold zd9 at this;exact of_decide_eq_false this
theorem le_self (W:Weak (zd9 c)) (x:X): ¬ c x x<0:=by
 have:=W.irr x;unfold zd9 at this;exact of_decide_eq_false this
theorem zis.pair (W:Weak (zd9 c)) (x:zis c a b m G) {p q:Nat} (h1:a <= p) (h2:p<q) (h3:q<b) (h4:p <= m) (h5:m <= q) (hp:p<G.length) (hq:q<G.length): ¬ c G[q] G[p]<0:=by
 have hm:m<G.length:=by omega
 have e1:p<m-> ¬ c G[m] G[p]<0:=fun k=>nlt_of W (x.lo p hp hm h1 k)
 have e2:m<q-> ¬ c G[q] G[m]<0:=fun k=>x.hi q hq hm k h3
 by_cases k1:p=m
 ·subst k1;exact e2 (by omega)
 ·by_cases k2:q=m
  ·subst k2;exact e1 (by omega)
  ·exact le_of W (e2 (by omega)) (e1 (by omega))
theorem zis.left (W:Weak (zd9 c)) (x:zis c a b m G) (w:zcg a m G G'):zis c a b m G':=by
 have hl:=w.len
 refine ⟨x.ge,x.lt,by have:=x.hb;omega,fun k h hm h1 h2=> ?_,fun k h hm h1 h2=> ?_⟩
 ·obtain ⟨k',k1,k2,k3,e⟩:=w.mem h1 h2 h
  rw [e,w.same (k:=m) (.inr (by omega)) hm (by omega)]
  exact x.lo k' k3 _ k1 k2
 ·rw [w.same (k:=m) (.inr (by omega)) hm (by omega),w.same (k:=k) (.inr (by omega)) h (by omega)]
  exact x.hi k _ _ h1 h2
theorem zis.right (W:Weak (zd9 c)) (x:zis c a b m G) (w:zcg (m+1) b G G'):zis c a b m G':=by
 have hl:=w.len
 refine ⟨x.ge,x.lt,by have:=x.hb;omega,fun k h hm h1 h2=> ?_,fun k h hm h1 h2=> ?_⟩
 ·rw [w.same (k:=m) (.inl (by omega)) hm (by omega),w.same (k:=k) (.inl (by omega)) h (by omega)]
  exact x.lo k _ _ h1 h2
 ·obtain ⟨k',k1,k2,k3,e⟩:=w.mem (k:=k) (by omega) h2 h
  rw [e,w.same (k:=m) (.inl (by omega)) hm (by omega)]
  exact x.hi k' k3 _ (by omega) k2
theorem Cut.left (W:Weak (zd9 c)) (x:Cut c A0 Z0 a b G) (p:zis c a b m G) (s:Srt c a m G):Cut c A0 Z0 (m+1) b G:=fun i j h1 h2 h3 h4 h5 h6=>by
 by_cases k:i<a \/ b <= j
 ·exact x i j h1 h2 h3 k h5 h6
 ·by_cases k2:j<m
  ·exact s i j (by omega) h2 k2 h5 h6
  ·exact p.pair W (by omega) h2 (by omega) (by omega) (by omega) h5 h6
theorem Cut.right (W:Weak (zd9 c)) (x:Cut c A0 Z0 a b G) (p:zis c a b m G) (s:Srt c (m+1) b G):Cut c A0 Z0 a m G:=fun i j h1 h2 h3 h4 h5 h6=>by
 by_cases k:i<a \/ b <= j
 ·exact x i j h1 h2 h3 k h5 h6
 ·by_cases k2:m<i
  ·exact s i j (by omega) h2 (by omega) h5 h6
  ·exact p.pair W (by omega) h2 (by omega) (by omega) (by omega) h5 h6
theorem Cut.pre (x:Cut c A0 Z0 a b G) (h:A0<a) (hb:b <= Z0):Pre c a b G:=fun h0 i h1 h2 h3 h4=>x (a-1) i (by omega) (by omega) (by omega) (.inl (by omega)) h4 h3
theorem Pre.sub (x:Pre c a b G) (h:m <= b):Pre c a m G:=fun h0 i h1 h2 h3 h4=>x h0 i h1 (by omega) h3 h4
theorem Cut.equal (W:Weak (zd9 c)) {i j:Nat} (x:Cut c A0 Z0 a b G) (p:EInv c a b G i j) (hji:j<i) (ha:0<a) (hp:Pre c a b G) (hlt:a<b) (hd: ∀ (h1:a-1<G.length) (h2:a<G.length),¬ c G[a-1] G[a]<0):Cut c A0 Z0 i b G:=fun s t h1 h2 h3 h4 h5 h6=>by
 have e:=p.hij
 have e3:=p.hi
 by_cases k:s<a \/ b <= t
 ·exact x s t h1 h2 h3 k h5 h6
 ·have la:a<G.length:=by omega
  have sp: ¬ c G[a] G[s]<0:=by
   by_cases k3:s=a
   ·subst k3;exact le_self W _
   ·exact p.lo s h5 la (by omega) (by omega)
  by_cases k2:t<i
  ·have t1:=hp ha t (by omega) (by omega) h6 (by omega)
   exact le_of W (le_of W t1 (hd (by omega) la)) sp
  ·exact le_of W (nlt_of W (p.hi2 t h6 la (by omega) (by omega))) sp
end
abbrev I5 (F:AVal->AVal->AVal->AVal->AVal->za->(zQ)->Prop) (C:CSem) (n:Nat):Prop:= ∀ (v0 v1 v2 v3 v4:AVal) (h:za) (Q:zQ),F v0 v1 v2 v3 v4 h (dn Q)->C n [v0,v1,v2,v3,v4] h Q
abbrev I4 (F:AVal->AVal->AVal->AVal->za->(zQ)->Prop) (C:CSem) (n:Nat):Prop:= ∀ (v0 v1 v2 v3:AVal) (h:za) (Q:zQ),F v0 v1 v2 v3 h (dn Q)->C n [v0,v1,v2,v3] h Q
structure PdqI (C:CSem) (E:zz) (f1 f2 f3 f4 f5 f6 f7 f8 f9 g1 g2 g3 g4 g5 g6:Nat):Prop where
 eq:I5 (zj.cps C E) C f1
 part:I5 (ze.cps C E) C f2
 pdq:I5 (zm.cps C E f1 f2 f3 f4 f5 f6 f7 f8 f9) C f3
 pis:I4 (zb.cps C E) C f4
 rev:I4 (zck.cps C E) C f5
 piv:I4 (zo.cps C E g2 g3) C f6
 brk:I4 (zk.cps C E g5 g6) C f7
 heap:I4 (zbb.cps C E g4) C f8
 ins:I4 (zbf.cps C E) C f9
 ord:O2I C E g1
 med:MedI C E g1 g2
 adj:AdjI C E g2 g3
 sift:SiftI C E g4
 next:NextI C g5
 pow:PowI C g6
section
variable {E:zz} {X:Type} {cs:X->List AVal} {v:X->AVal} {h0 h:za} {x f:AVal} {G:List X} {R:List (List AVal)} {c:X->X->Int} {Q:zQ} {Y:zL} {f1 f2 f3 f4 f5 f6 f7 f8 f9 g1 g2 g3 g4 g5 g6:Nat}
structure PS (E:zz) {X:Type} (cs:X->List AVal) (h0:za) (x:AVal) (R:List (List AVal)) (c:X->X->Int) (A0 Z0:Nat) (G0:List X) (a b:Nat) (G:List X) (h:za):Prop where
 hA:A0 <= a
 hab:a <= b
 hB:b <= Z0
 W:zcg A0 Z0 G0 G
 cut:Cut c A0 Z0 a b G
 pre:Pre c a b G
 o:Rw E cs h0 h x G R
theorem PS.turn {A0 Z0 a b:Nat} {G0 G':List X} {h':za} (p:PS E cs h0 x R c A0 Z0 G0 a b G h) (w:zcg a b G G') (o:Rw E cs h0 h' x G' R):PS E cs h0 x R c A0 Z0 G0 a b G' h':=
 ⟨p.hA,p.hab,p.hB,p.W.trans (w.mono p.hA p.hB),p.cut.within w p.hA p.hB,p.pre.within w,o⟩
abbrev Go1 (E:zz) {X:Type} (cs:X->List AVal) (h0:za) (x:AVal) (R:List (List AVal)) (c:X->X->Int) (A0 Z0:Nat) (G0:List X) (n:Nat) (Y:zL):Prop:=
 ∀ a b (lim:Int) w1 w2 G h,b-a<n->PS E cs h0 x R c A0 Z0 G0 a b G h->Y [.int .i64 (a:Int),.int .i64 (b:Int),.int .i64 lim,.bool w1,.bool w2] h
theorem pdq_k1 (J:PdqI C E f1 f2 f3 f4 f5 f6 f7 f8 f9 g1 g2 g3 g4 g5 g6) (S:zc0 E cs v) (W:Weak (zd9 c)) (hc:zdm C v c f h0) {A0 Z0 a b:Nat} {G0:List X} {lim:Int} {w1 w2:Bool} {pv:Nat} (p:PS E cs h0 x R c A0 Z0 G0 a b G h) (hl:G.length <= 100000000) (hBl:Z0 <= G.length)
  (h1:a <= pv) (h2:pv<b)
  (rcs: ∀ (a' b':Nat) (lim:Int) (h:za) (G:List X) (Q:zQ),b'-a'<b-a->a' <= b'->b' <= G.length->G.length <= 100000000->Pre c a' b' G->Rw E cs h0 h x G R->(∀ h' G',zcg a' b' G G'->Srt c a' b' G'->Rw E cs h0 h' x G' R->Q (.tup []) h') ->
   C f3 [x,.int .i64 (a':Int),.int .i64 (b':Int),.int .i64 lim,f] h Q)
  (hY:Go1 E cs h0 x R c A0 Z0 G0 (b-a) Y):
  zm.k1 C E f1 f2 f3 f4 f5 f6 f7 f8 f9 Q Y x (.int .i64 (a:Int)) (.int .i64 (b:Int)) (.int .i64 lim) f (.bool w1) (.bool w2) (.int .i64 ((b-a:Nat):Int)) (.int .i64 (pv:Int)) h:=by
 have hA:=p.hA;have hB:=p.hB;have o:=p.o
 have lp:pv<G.length:=by omega
 have part:zm.k1 C E f1 f2 f3 f4 f5 f6 f7 f8 f9 Q Y x (.int .i64 (a:Int)) (.int .i64 (b:Int)) (.int .i64 lim) f (.bool w1) (.bool w2) (.int .i64 ((b-a:Nat):Int)) (.int .i64 (pv:Int)) h =
  zm.k1 C E f1 f2 f3 f4 f5 f6 f7 f8 f9 Q Y x (.int .i64 (a:Int)) (.int .i64 (b:Int)) (.int .i64 lim) f (.bool w1) (.bool w2) (.int .i64 ((b-a:Nat):Int)) (.int .i64 (pv:Int)) h:=rfl
 clear part
 have part:C f2 [x,.int .i64 (a:Int),.int .i64 (b:Int),.int .i64 (pv:Int),f] h (fun v111 h=>
  B.pv (V.ext 0 v111) fun v112=>
  B.pv (V.ext 1 v111) fun v113=>
  B.pv (V.bin .sub v112 (.int .i64 (a:Int))) fun v117=>
  B.pv (V.bin .sub (.int .i64 (b:Int)) v112) fun v120=>
  B.pv (V.bin .quo (.int .i64 ((b-a:Nat):Int)) (.int .i64 8)) fun v122=>
  B.pv (V.bin .lss v117 v120) fun v125=>
  B.cond v125
  (B.pv (V.bin .geq v117 v122) fun v128=>
  B.call C f3 [x,.int .i64 (a:Int),v112,.int .i64 lim,f] h fun v134 h=>
  B.pv (V.bin .add v112 (.int .i64 1)) fun v136=>
  Y [v136,.int .i64 (b:Int),.int .i64 lim,v128,v113] h)
  (B.pv (V.bin .geq v120 v122) fun v139=>
  B.pv (V.bin .add v112 (.int .i64 1)) fun v142=>
  B.call C f3 [x,v142,.int .i64 (b:Int),.int .i64 lim,f] h fun v146 h=>
  Y [.int .i64 (a:Int),v112,.int .i64 lim,v139,v113] h)):=by
  refine J.part _ _ _ _ _ _ _ (zjt S hc o (by omega) h1 h2 (by omega) fun h3 m G3 t pt W3 o3=>zbu ?_)
  have p3:=p.turn W3 o3
  have l3:=W3.len
  have m1:=pt.ge;have m2:=pt.lt
  have q8:V.bin .quo (.int .i64 ((b-a:Nat):Int)) (.int .i64 8)=some (.int .i64 (((b-a) / 8:Nat):Int)):=by
   rw [V.zkr _ _ _ (by omega),show ((b-a:Nat):Int).tdiv 8=(((b-a) / 8:Nat):Int) from rfl,wrap_i64 (by omega) (by omega)]
  simp -dsimp only [V.zfw,List.getElem?_cons_zero,List.getElem?_cons_succ,B.zd,zfq m1 (show m<4611686018427387904 by omega),zfq (show m <= b by omega) (show b<4611686018427387904 by omega),q8,lssN,geqN,add1 (show m<4611686018427387904 by omega)]
  refine B.zr (fun hd=> ?_) (fun hd=> ?_)
  ·simp -dsimp only [geqN,add1 (show m<4611686018427387904 by omega),B.zd]
   refine rcs a m lim _ G3 _ (by omega) m1 (by omega) (by omega) (p3.pre.sub (by omega)) o3 fun h4 G4 W4 s4 o4=> ?_
   have pt4:=pt.left W W4
   have cut4:=(p3.cut.within (W4.mono (Nat.le_refl _) (by omega)) hA hB).left W pt4 s4
   simp -dsimp only [add1 (show m<4611686018427387904 by omega),B.zd]
   exact hY (m+1) b lim _ _ G4 h4 (by omega) ⟨by omega,by omega,hB,p3.W.trans (W4.mono hA (by omega)),cut4,cut4.pre (by omega) hB,o4⟩
  ·have c3:Pre c (m+1) b G3:=fun h0 i k1 k2 k3 k4=>pt.pair W (p:=m+1-1) (q:=i) (by omega) (by omega) k2 (by omega) (by omega) k4 k3
   simp -dsimp only [geqN,add1 (show m<4611686018427387904 by omega),B.zd]
   refine rcs (m+1) b lim _ G3 _ (by omega) (by omega) (by omega) (by omega) c3 o3 fun h4 G4 W4 s4 o4=> ?_
   have pt4:=pt.right W W4
   have W4':zcg a b G3 G4:=W4.mono (by omega) (Nat.le_refl _)
   have cut4:=(p3.cut.within W4' hA hB).right W pt4 s4
   exact hY a m lim _ _ G4 h4 (by omega) ⟨hA,m1,by omega,p3.W.trans (W4.mono (by omega) hB),cut4,(p3.pre.within W4').sub (by omega),o4⟩
 simp -dsimp only [zm.k1]
 have g0:V.bin .gtr (.int .i64 (a:Int)) (.int .i64 0)=some (.bool (decide (0<a))):=gtrN (b:=0)
 simp -dsimp only [g0,B.zd]
 by_cases ha:0<a
 ·have la:a-1<G.length:=by omega
  simp -dsimp only [ha,decide_true,B.gd_t,B.zce,sub1 (show 1 <= a by omega) (show a<4611686018427387904 by omega),o.idx la,o.idx lp,B.zd]
  refine o.ld S (List.getElem?_eq_getElem la) ?_
  refine o.ld S (List.getElem?_eq_getElem lp) ?_
  refine hc.call _ _ _ _ o.le ?_
  simp -dsimp only [ha,decide_true,B.gd_t,B.zce,V.zec,V.zf5,B.zev,B.zd]
  refine B.zr (fun he=> ?_) (fun he=>part)
  have hd: ¬ c G[a-1] G[pv]<0:=by simpa using he
  refine J.eq _ _ _ _ _ _ _ (zg7 S hc o (by omega) h1 h2 (by omega) fun h3 i j G3 pe hji W3 e3 o3=>zbu ?_)
  have p3:=p.turn W3 o3
  have l3:=W3.len
  have k1:=pe.hi;have k2:=pe.hij;have k3:=pe.hj
  have cut4:=p3.cut.equal W pe hji ha p3.pre (by omega) fun q1 q2=>by
   rw [e3 q2 lp,W3.same (.inl (by omega)) q1 la];exact hd
  exact hY i b lim _ _ G3 h3 (by omega) ⟨by omega,by omega,hB,p3.W,cut4,cut4.pre (by omega) hB,o3⟩
 ·simp -dsimp only [ha,decide_false,B.gd_t,B.zdw,B.ze2,B.cond_false]
  exact part
theorem pdq_spec (J:PdqI C E f1 f2 f3 f4 f5 f6 f7 f8 f9 g1 g2 g3 g4 g5 g6) (S:zc0 E cs v) (W:Weak (zd9 c)) (hc:zdm C v c f h0): ∀ (n:Nat) (A0 Z0:Nat) (lim:Int) (h:za) (G:List X) (Q:zQ),Z0-A0=n->A0 <= Z0->Z0 <= G.length->G.length <= 100000000->Pre c A0 Z0 G->Rw E cs h0 h x G R ->
  (∀ h' G',zcg A0 Z0 G G'->Srt c A0 Z0 G'->Rw E cs h0 h' x G' R->Q (.tup []) h')->zm.cps C E f1 f2 f3 f4 f5 f6 f7 f8 f9 x (.int .i64 (A0:Int)) (.int .i64 (Z0:Int)) (.int .i64 lim) f h Q:=by
 intro n
 induction n using Nat.strongRecOn with
 | ind n ih=>
 intro A0 Z0 lim h G0 Q hn hAB hBl hl hpre ho hq
 simp -dsimp only [zm.cps]
 refine zw.intro (fun t vs hh=> ∃ (a b:Nat) (lim:Int) (w1 w2:Bool) (G:List X),t=b-a /\ vs=[.int .i64 (a:Int),.int .i64 (b:Int),.int .i64 lim,.bool w1,.bool w2] /\ PS E cs h0 x R c A0 Z0 G0 a b G hh) (Z0-A0) ?_
  ⟨A0,Z0,lim,true,true,G0,rfl,rfl,⟨Nat.le_refl _,hAB,Nat.le_refl _,zcg.refl _ _ _,fun p q _ _ _ k=>by omega,hpre,ho⟩⟩
 rintro Y t vs hh ⟨a,b,lim,w1,w2,G,rfl,rfl,p⟩ hY'
 have hY:Go1 E cs h0 x R c A0 Z0 G0 (b-a) Y:=fun a' b' lim' w1' w2' G' h' hlt p'=>hY' (b'-a') _ _ hlt ⟨a',b',lim',w1',w2',G',rfl,rfl,p'⟩
 clear hY'
 have hA:=p.hA;have hab:=p.hab;have hB:=p.hB
 have lG:=p.W.len
 have rcs: ∀ (a' b':Nat) (lim:Int) (h:za) (G:List X) (Q:zQ),b'-a'<b-a->a' <= b'->b' <= G.length->G.length <= 100000000->Pre c a' b' G->Rw E cs h0 h x G R->(∀ h' G',zcg a' b' G G'->Srt c a' b' G'->Rw E cs h0 h' x G' R->Q (.tup []) h') ->
   C f3 [x,.int .i64 (a':Int),.int .i64 (b':Int),.int .i64 lim,f] h Q:=fun a' b' lim h G Q k1 k2 k3 k4 k5 k6 k7=>
  J.pdq _ _ _ _ _ _ _ (ih (b'-a') (by omega) a' b' lim h G _ rfl k2 k3 k4 k5 k6 fun h' G' w s o=>zbu (k7 h' G' w s o))
 have fin: ∀ {hh G G2},PS E cs h0 x R c A0 Z0 G0 a b G hh-> ∀ h',zcg a b G G2->Srt c a b G2->Rw E cs h0 h' x G2 R->Q (.tup []) h':=fun p h' w s o=>by
  have p2:=p.turn w o
  exact hq h' _ p2.W (p2.cut.join s) o
 have e12:V.bin .leq (.int .i64 ((b-a:Nat):Int)) (.int .i64 12)=some (.bool (decide (b-a <= 12))):=leqN (b:=12)
 simp -dsimp only [zm.l8,zfq hab (show b<4611686018427387904 by omega),B.zd,zm.k7,e12]
 refine B.zr (fun hd=> ?_) (fun hd=> ?_)
 ·exact J.ins _ _ _ _ _ _ (zkm S W hc p.o (by omega) hab (by omega) fun h' G' w s o=>zbu (fin p h' w s o))
 rw [decide_eq_false_iff_not] at hd
 simp -dsimp only [zm.k6,V.zfy,B.zd]
 refine B.zr (fun _=> ?_) (fun _=> ?_)
 ·exact J.heap _ _ _ _ _ _ (zkn J.sift S W hc p.o (by omega) (by omega) (by omega) fun h' G' w s o=>zbu (fin p h' w s o))
 have k4: ∀ {hh G} (lim:Int),PS E cs h0 x R c A0 Z0 G0 a b G hh->zm.k4 C E f1 f2 f3 f4 f5 f6 f7 f8 f9 Q Y x (.int .i64 (a:Int)) (.int .i64 (b:Int)) (.int .i64 lim) f (.bool w1) (.bool w2) (.int .i64 ((b-a:Nat):Int)) hh:=fun {hh G} lim p=>by
  have lG:=p.W.len
  simp -dsimp only [zm.k4]
  refine J.piv _ _ _ _ _ _ (zil J.ord J.med J.adj S (Owns.slAt p.o 0 rfl) p.o.le hc (by omega) (by omega) (by omega) fun m hint h2 m1 m2 hle=>zbu ?_)
  have p2:PS E cs h0 x R c A0 Z0 G0 a b G h2:=⟨p.hA,p.hab,p.hB,p.W,p.cut,p.pre,Owns.grow p.o hle⟩
  simp -dsimp only [V.zfw,List.getElem?_cons_zero,List.getElem?_cons_succ,B.zd,zm.k3,V.zfy]
  have k2: ∀ {hh G} (pv:Nat) (hint:Int),a <= pv->pv<b->PS E cs h0 x R c A0 Z0 G0 a b G hh->zm.k2 C E f1 f2 f3 f4 f5 f6 f7 f8 f9 Q Y x (.int .i64 (a:Int)) (.int .i64 (b:Int)) (.int .i64 lim) f (.bool w1) (.bool w2) (.int .i64 ((b-a:Nat):Int)) (.int .i64 (pv:Int)) (.int .i64 hint) hh:=fun {hh G} pv hint q1 q2 p=>by
   have lG:=p.W.len
   have go:=pdq_k1 (Q:=Q) (lim:=lim) (w1:=w1) (w2:=w2) J S W hc p (by omega) (by omega) q1 q2 rcs hY
   simp -dsimp only [zm.k2]
   have two:B.cond (.bool true) (B.call C f4 [x,.int .i64 (a:Int),.int .i64 (b:Int),f] hh fun v80 h=>
     B.cond v80 (Q (.tup []) h) (zm.k1 C E f1 f2 f3 f4 f5 f6 f7 f8 f9 Q Y x (.int .i64 (a:Int)) (.int .i64 (b:Int)) (.int .i64 lim) f (.bool w1) (.bool w2) (.int .i64 ((b-a:Nat):Int)) (.int .i64 (pv:Int)) h))
     (zm.k1 C E f1 f2 f3 f4 f5 f6 f7 f8 f9 Q Y x (.int .i64 (a:Int)) (.int .i64 (b:Int)) (.int .i64 lim) f (.bool w1) (.bool w2) (.int .i64 ((b-a:Nat):Int)) (.int .i64 (pv:Int)) hh):=by
    rw [B.cond_true]
    refine J.pis _ _ _ _ _ _ (zft S W hc p.o (by omega) (by omega) (by omega) p.pre fun h' G' t w s o=>zbu ?_)
    have p':=p.turn w o
    have lG':=p'.W.len
    refine B.zr (fun ht=>fin p h' w (s ht) o) (fun _=> ?_)
    exact pdq_k1 (Q:=Q) (lim:=lim) (w1:=w1) (w2:=w2) J S W hc p' (by omega) (by omega) q1 q2 rcs hY
   cases w1<;>cases w2
   ·simp -dsimp only [B.gd_t,B.zdw,B.ze2,B.cond_false];exact go
   ·simp -dsimp only [B.gd_t,B.zdw,B.ze2,B.cond_false];exact go
   ·simp -dsimp only [B.gd_t,B.zce,B.zdw,B.zev,B.ze2,B.cond_false];exact go
   ·by_cases hh1:hint=1
    ·simp -dsimp only [B.gd_t,B.zce,V.zfy,hh1,decide_true,B.zd,B.zev];exact two
    ·simp -dsimp only [B.gd_t,B.zce,V.zfy,hh1,decide_false,B.zd,B.zev,B.cond_false];exact go
  refine B.zr (fun _=> ?_) (fun _=>k2 m hint m1 m2 p2)
  refine J.rev _ _ _ _ _ _ (zh7 S (by omega) p2.o (by omega) (by omega) fun h3 G3 w3 o3=>zbu ?_)
  simp -dsimp only [sub1 (show 1 <= b by omega) (show b<4611686018427387904 by omega),zfq m1 (show m<4611686018427387904 by omega),zfq (show m-a <= b-1 by omega) (show b-1<4611686018427387904 by omega),B.zd]
  exact k2 (b-1-(m-a)) 1 (by omega) (by omega) (p2.turn w3 o3)
 simp -dsimp only [zm.k5,V.zf5,B.zd]
 refine B.zr (fun _=> ?_) (fun _=>k4 lim p)
 refine J.brk _ _ _ _ _ _ (zhy J.next J.pow S p.o (by omega) hab (by omega) fun h' G' w o=>zbu ?_)
 simp -dsimp only [V.zgt,B.zd]
 exact k4 _ (p.turn w o)
theorem SortFunc_spec {fl:Nat} (J:PdqI C E f1 f2 f3 f4 f5 f6 f7 f8 f9 g1 g2 g3 g4 g5 g6) (hlen:LenI C fl) (S:zc0 E cs v) (W:Weak (zd9 c)) (hc:zdm C v c f h0) (hl:G.length <= 100000000) (ho:Rw E cs h0 h x G R)
  (hq: ∀ h' G',G'.Perm G->G'.Pairwise (fun s t=> ¬ c t s<0)->Rw E cs h0 h' x G' R->Q (.tup []) h'):zfn.cps C E fl f3 x f h Q:=by
 simp -dsimp only [zfn.cps,zfn.k1,ho.lenE,toUN (show G.length<18446744073709551616 by omega),B.zd]
 refine hlen _ _ _ hl fun r hr _=> ?_
 refine J.pdq _ _ _ _ _ _ _ (pdq_spec J S W hc _ 0 G.length r h G _ rfl (by omega) (Nat.le_refl _) hl (fun h=>by omega) ho fun h' G' w s o=>zbu ?_)
 refine hq h' G' w.perm ?_ o
 rw [List.pairwise_iff_getElem]
 intro i j hi hj hij
 have:=w.len
 exact s i j (by omega) hij (by omega) hi hj
end
end Go.Ab
namespace Go.Ab.Ord
open Go.Ab
structure zdm (C:CSem) {X:Type} (v:X->AVal) (c:X->X->Int) (fL:Nat) (h0:za):Prop where
 call: ∀ (h:za) (a b:X) (K:zQ),h0.le h->K (.bool (decide (c a b<0))) h->B.call C fL [v a,v b] h K
variable {C C0:CSem} {fL:Nat}
variable {C C0:CSem} {fL:Nat} {N:zN}
section
variable {E:zz} {X:Type} {cs:X->List AVal} {v:X->AVal} {h0 h:za} {x:AVal} {G:List X} {R:List (List AVal)}
end
section
variable {E:zz} {T:Type} {cs:T->List AVal} {v:T->AVal} {c:T->T->Int} {h0 h:za} {x f:AVal} {R:List (List AVal)} {Q:zQ}
theorem zht (S:zc0 E cs v) (W:Weak (zd9 c)) {P M U:List (T×Nat)} (hlen:(P++(M++U)).length <= 100000000) (ht:M.Pairwise fun a b=>a.2<b.2)
  (hc:zdm C0 v c fL h0) {a b:Nat} (ha:a=P.length) (hb:b=P.length+M.length) (ho:Rw E (fun p:T×Nat=>cs p.1) h0 h x (P++(M++U)) R)
  (hq: ∀ h' M',M'.Perm M->M'.Pairwise (lt' (zd9 c))->Rw E (fun p:T×Nat=>cs p.1) h0 h' x (P++(M'++U)) R->Q (.tup []) h'):
  zc6.cps C E C0 fL x (.int .i64 (a:Int)) (.int .i64 (b:Int)) f h Q:=by
 have S':=S.comp (fun p:T×Nat=>p.1)
 subst ha
 have hlen':P.length+M.length+U.length <= 100000000:=by simpa [Nat.add_assoc] using hlen
 simp -dsimp only [zc6.cps,add1 (show P.length<4611686018427387904 by omega),B.zd]
 cases M with
 | nil=>
  intro Y hY
  refine hY _ _ ?_
  simp -dsimp only [zc6.l3,lssN,B.zd]
  rw [show decide (P.length+1<b)=false by simp at hb ⊢;omega,B.cond_false]
  exact hq h [] (List.Perm.refl _) .nil ho
 | cons m M1=>
 simp only [List.length_cons] at hlen' hb
 rw [List.pairwise_cons] at ht
 refine zw.intro (fun t vs hh=> ∃ (i:Nat) (L M2:List (T×Nat)),t=M2.length /\ vs=[.int .i64 i] /\ i=P.length+L.length /\ i+M2.length=b /\ Rw E (fun p:T×Nat=>cs p.1) h0 hh x (P++(L++(M2++U))) R /\
  (L++M2).Perm (m::M1) /\ L.Pairwise (lt' (zd9 c)) /\ M2.Pairwise (fun a b=>a.2<b.2) /\ ∀ p∈L,∀ q∈M2,p.2<q.2) M1.length ?_
  ⟨P.length+1,[m],M1,rfl,rfl,by simp,by omega,by simpa using ho,List.Perm.refl _,List.pairwise_singleton ..,ht.2,by simpa using ht.1⟩
 rintro Y t vs hh ⟨i,L,M2,rfl,rfl,hi,hib,o,hp,hs,ht2,htt⟩ hY
 simp -dsimp only [zc6.l3,lssN,B.zd]
 cases M2 with
 | nil=>
  rw [show decide (i<b)=false by simp at hib ⊢;omega,B.cond_false]
  rw [List.append_nil] at hp
  exact hq hh L hp hs o
 | cons x0 M2=>
  simp only [List.length_cons] at hib
  rw [show decide (i<b)=true by simp;omega,B.cond_true]
  rw [List.pairwise_cons] at ht2
  have hll:P.length+(L.length+(M2.length+1))=b:=by omega
  refine zw.intro (fun t vs h2=> ∃ (L1 L2:List (T×Nat)),t=L1.length /\ vs=[.int .i64 ((P.length+L1.length:Nat):Int)] /\ L=L1++L2 /\ Rw E (fun p:T×Nat=>cs p.1) h0 h2 x (P++(L1++x0::(L2++(M2++U)))) R /\
   ∀ q∈L2,lt' (zd9 c) x0 q) L.length ?_ ⟨L,[],rfl,by rw [hi],by simp,by simpa using o,by simp⟩
  rintro Z t vs h2 ⟨L1,L2,rfl,rfl,rfl,o2,hx⟩ hZ
  rw [List.pairwise_append] at hs
  have fin:(L1=[] \/ ∃ L0 y,L1=L0++[y] /\ lt' (zd9 c) y x0)->Y [.int .i64 ((i+1:Nat):Int)] h2:=fun hz=>by
   have hlow: ∀ p∈L1,lt' (zd9 c) p x0:=by
    rcases hz with rfl|⟨L0,y,rfl,hy⟩
    ·simp
    ·intro p hpm
     rcases List.mem_append.1 hpm with h1|h1
     ·exact lt'_trans W ((List.pairwise_append.1 hs.1).2.2 p h1 y (by simp)) hy
     ·rw [List.mem_singleton.1 h1];exact hy
   refine hY M2.length _ _ (by simp) ⟨i+1,L1++x0::L2,M2,rfl,rfl,by simp at hi ⊢;omega,by omega,by simpa using o2,?_,?_,ht2.2,?_⟩
   ·refine List.Perm.trans ?_ hp
    simp only [List.append_assoc,List.cons_append]
    refine List.Perm.append_left _ ?_
    exact (List.perm_middle (l₁:=L2) (l₂:=M2) (a:=x0)).symm
   ·rw [List.pairwise_append,List.pairwise_cons]
    refine ⟨hs.1,⟨hx,hs.2.1⟩,fun p h1 q h2=> ?_⟩
    rcases List.mem_cons.1 h2 with rfl|h2
    ·exact hlow p h1
    ·exact hs.2.2 p h1 q h2
   ·intro p h1 q h2
    rcases List.mem_append.1 h1 with h1|h1
    ·exact htt p (List.mem_append_left _ h1) q (List.mem_cons_of_mem _ h2)
    ·rcases List.mem_cons.1 h1 with rfl|h1
     ·exact ht2.1 q h2
     ·exact htt p (List.mem_append_right _ h1) q (List.mem_cons_of_mem _ h2)
  have hll2:i=P.length+(L1.length+L2.length):=by simpa using hi
  simp -dsimp only [zc6.l2,zc6.k1,gtrN,B.zd]
  obtain rfl|⟨L0,y,rfl⟩:=zpv L1
  ·simp -dsimp [add1 (show i<4611686018427387904 by omega)]
   exact fin (.inl rfl)
  ·have hyx:y.2<x0.2:=htt y (by simp) x0 (by simp)
   have o2':=o2
   simp only [List.append_assoc,List.cons_append,List.nil_append] at o2'
   simp only [List.length_append,List.length_singleton] at hll2 hlen' hll
   have hj:P.length+(L0++[y]).length=P.length+L0.length+1:=by simp [Nat.add_assoc]
   rw [show decide (P.length<P.length+(L0++[y]).length)=true by simp]
   rw [hj]
   simp -dsimp only [B.gd_t,B.zoy,B.zce,zp7,sub1 (show 1 <= P.length+L0.length+1 by omega) (by omega),Nat.add_sub_cancel,o2.idx (i:=P.length+L0.length+1) (by simp;omega),o2.idx (i:=P.length+L0.length) (by simp),B.zd]
   have o3:Rw E (fun p:T×Nat=>cs p.1) h0 h2 x ((P++L0)++y::([]++x0::(L2++(M2++U)))) R:=by simpa using o2
   have gy:((P++L0)++y::([]++x0::(L2++(M2++U))))[P.length+L0.length]? =some y:=get_mid (by simp)
   have gx:((P++L0)++y::([]++x0::(L2++(M2++U))))[P.length+L0.length+1]? =some x0:=get_mid2 (by simp)
   refine o3.ld S' gx ?_
   refine o3.ld S' gy ?_
   refine hc.call _ _ _ _ o2.le ?_
   simp -dsimp only [B.gd_t,B.zoy,B.zce,zp7,V.zec,B.zd,B.zev]
   refine B.zr (fun hb2=> ?_) (fun hb2=> ?_)
   ·simp -dsimp only [sub1 (show 1 <= P.length+L0.length+1 by omega) (by omega),Nat.add_sub_cancel,o2.idx (i:=P.length+L0.length+1) (by simp;omega),o2.idx (i:=P.length+L0.length) (by simp),B.zd]
    refine o3.ld S' gy ?_
    refine o3.ld S' gx ?_
    refine o3.swapDn S' (by simp) (by simp) fun h4 o4=> ?_
    refine hZ L0.length _ _ (by simp) ⟨L0,y::L2,rfl,rfl,by simp,by simpa using o4,?_⟩
    intro q hq2
    rcases List.mem_cons.1 hq2 with rfl|hq2
    ·exact (lt'_gt hyx).2 hb2
    ·exact hx q hq2
   ·simp -dsimp only [add1 (show i<4611686018427387904 by omega),B.zd]
    exact fin (.inr ⟨L0,y,rfl,(lt'_le W hyx).2 hb2⟩)
end
section
variable {E:zz} {X:Type} {cs:X->List AVal} {v:X->AVal} {h0 h:za} {x f:AVal} {G:List X} {R:List (List AVal)} {c:X->X->Int}
theorem zg9 (S:zc0 E cs v) (hx:SlX h0 E.es x (G.map cs) R) (hc:zdm C0 v c fL h0) {p:AVal} {n:Int} (ho:Owns h0 h [.box p [.int .i64 n]]) {i j:Nat} (hi:i<G.length) (hj:j<G.length) {Q:zQ}
  (hq: ∀ (i' j':Nat) (n':Int) h',(i'=i \/ i'=j)->(j'=i \/ j'=j)->Owns h0 h' [.box p [.int .i64 n']]->Q (.tup [.int .i64 (i':Int),.int .i64 (j':Int)]) h'):zfr.cps C E C0 fL x (.int .i64 (i:Int)) (.int .i64 (j:Int)) p f h Q:=by
 have hxx:=hx.mono ho.le
 have ii:V.idxS E.es x (.int .i64 (i:Int))=some (elp E.es x i 0):=hxx.idxN (by simpa using hi)
 have ij:V.idxS E.es x (.int .i64 (j:Int))=some (elp E.es x j 0):=hxx.idxN (by simpa using hj)
 have gi:(G.map cs)[i]? =some (cs G[i]):=by rw [List.getElem?_map,List.getElem?_eq_getElem hi];rfl
 have gj:(G.map cs)[j]? =some (cs G[j]):=by rw [List.getElem?_map,List.getElem?_eq_getElem hj];rfl
 obtain ⟨id,rfl,hb⟩:=ho.zom 0 rfl
 have ld:A.ldv h (.ptr id 0 0)=some (.int .i64 n):=by rw [zk2 hb];rfl
 simp -dsimp only [zfr.cps,zfr.k1,ij,B.zd]
 refine S.ld hxx gj ?_
 simp -dsimp only [ii,B.zd]
 refine S.ld hxx gi ?_
 refine hc.call _ _ _ _ ho.le ?_
 refine B.zr (fun hd=> ?_) (fun hd=> ?_)
 ·simp -dsimp only [B.zhf,B.ze4,ld,V.ze8,B.zd]
  refine ho.boxSt 0 (off:=0) rfl rfl (by simp) fun h2 o2 _=> ?_
  exact hq j i _ h2 (.inr rfl) (.inl rfl) (by simpa using o2)
 ·exact hq i j n h (.inl rfl) (.inr rfl) ho
abbrev O2I (C:CSem) (E:zz) (C0:CSem) (fL:Nat) (f1:Nat):Prop:= ∀ (v0 v1 v2 v3 v4:AVal) (h:za) (Q:zQ),zfr.cps C E C0 fL v0 v1 v2 v3 v4 h (dn Q)->C f1 [v0,v1,v2,v3,v4] h Q
abbrev MedI (C:CSem) (E:zz) (C0:CSem) (fL:Nat) (f1 f2:Nat):Prop:= ∀ (v0 v1 v2 v3 v4 v5:AVal) (h:za) (Q:zQ),zfs.cps C E C0 fL f1 v0 v1 v2 v3 v4 v5 h (dn Q)->C f2 [v0,v1,v2,v3,v4,v5] h Q
abbrev AdjI (C:CSem) (E:zz) (C0:CSem) (fL:Nat) (f2 f3:Nat):Prop:= ∀ (v0 v1 v2 v3:AVal) (h:za) (Q:zQ),zeh.cps C E C0 fL f2 v0 v1 v2 v3 h (dn Q)->C f3 [v0,v1,v2,v3] h Q
theorem zha {f1:Nat} (io:O2I C E C0 fL f1) (S:zc0 E cs v) (hx:SlX h0 E.es x (G.map cs) R) (hc:zdm C0 v c fL h0) {p:AVal} {n:Int} (ho:Owns h0 h [.box p [.int .i64 n]]) {i j k:Nat} (hi:i<G.length) (hj:j<G.length) (hk:k<G.length) {Q:zQ}
  (hq: ∀ (m:Nat) (n':Int) h',(m=i \/ m=j \/ m=k)->Owns h0 h' [.box p [.int .i64 n']]->Q (.int .i64 (m:Int)) h'):zfs.cps C E C0 fL f1 x (.int .i64 (i:Int)) (.int .i64 (j:Int)) (.int .i64 (k:Int)) p f h Q:=by
 simp -dsimp only [zfs.cps,zfs.k1]
 refine io _ _ _ _ _ _ _ (zg9 S hx hc ho hi hj fun a b n1 h1 ha hb o1=>zbu ?_)
 simp -dsimp only [V.zfw,List.getElem?_cons_zero,List.getElem?_cons_succ,B.zd]
 have la:a<G.length:=by rcases ha with rfl|rfl<;>assumption
 have lb:b<G.length:=by rcases hb with rfl|rfl<;>assumption
 refine io _ _ _ _ _ _ _ (zg9 S hx hc o1 lb hk fun a2 b2 n2 h2 ha2 hb2 o2=>zbu ?_)
 simp -dsimp only [V.zfw,List.getElem?_cons_zero,List.getElem?_cons_succ,B.zd]
 have la2:a2<G.length:=by rcases ha2 with rfl|rfl<;>assumption
 refine io _ _ _ _ _ _ _ (zg9 S hx hc o2 la la2 fun a3 b3 n3 h3 ha3 hb3 o3=>zbu ?_)
 simp -dsimp only [V.zfw,List.getElem?_cons_zero,List.getElem?_cons_succ,B.zd]
 refine hq b3 n3 h3 ?_ o3
 omega
theorem zes {f1 f2:Nat} (io:O2I C E C0 fL f1) (im:MedI C E C0 fL f1 f2) (S:zc0 E cs v) (hx:SlX h0 E.es x (G.map cs) R) (hc:zdm C0 v c fL h0) {p:AVal} {n:Int} (ho:Owns h0 h [.box p [.int .i64 n]]) {i:Nat} (hi:0<i) (hi2:i+1<G.length) (hl:G.length<4611686018427387904) {Q:zQ}
  (hq: ∀ (m:Nat) (n':Int) h',i-1 <= m->m <= i+1->Owns h0 h' [.box p [.int .i64 n']]->Q (.int .i64 (m:Int)) h'):zeh.cps C E C0 fL f2 x (.int .i64 (i:Int)) p f h Q:=by
 have e1:V.bin .sub (.int .i64 (i:Int)) (.int .i64 1)=some (.int .i64 ((i-1:Nat):Int)):=by
  rw [V.zgt,wrap_i64 (by omega) (by omega)];congr 2;omega
 simp -dsimp only [zeh.cps,zeh.k1,e1,add1 (show i<4611686018427387904 by omega),B.zd]
 exact im _ _ _ _ _ _ _ _ (zha io S hx hc ho (by omega) (by omega) hi2 fun m n' h' hm o'=>zbu (hq m n' h' (by omega) (by omega) o'))
theorem zh7 (S:zc0 E cs v) (hl:G.length<4611686018427387904) (ho:Rw E cs h0 h x G R) {a b:Nat} (hab:a<b) (hb:b <= G.length) {Q:zQ} (hq: ∀ h' G',zcg a b G G'->Rw E cs h0 h' x G' R->Q (.tup []) h'):
  zd0.cps C E C0 fL x (.int .i64 (a:Int)) (.int .i64 (b:Int)) f h Q:=by
 have e1:V.bin .sub (.int .i64 (b:Int)) (.int .i64 1)=some (.int .i64 ((b-1:Nat):Int)):=by
  rw [V.zgt,wrap_i64 (by omega) (by omega)];congr 2;omega
 simp -dsimp only [zd0.cps,e1,B.zd]
 refine zw.intro (fun t vs hh=> ∃ (i j:Nat) (G':List X),t=j /\ vs=[.int .i64 (i:Int),.int .i64 (j:Int)] /\ a <= i /\ j<b /\ zcg a b G G' /\ Rw E cs h0 hh x G' R) (b-1) ?_ ⟨a,b-1,G,rfl,rfl,Nat.le_refl _,by omega,zcg.refl _ _ _,ho⟩
 rintro Y j vs hh ⟨i,_,G',rfl,rfl,hi,hj,W,o⟩ hY
 simp -dsimp only [zd0.l2,zd0.k1,lssN,B.zd]
 have hlen:=W.len
 refine B.zr (fun hc=> ?_) (fun hc=>hq hh G' W o)
 rw [decide_eq_true_eq] at hc
 have li:i<G'.length:=by omega
 have lj:j<G'.length:=by omega
 simp -dsimp only [o.idx lj,B.zd]
 refine o.ld S (List.getElem?_eq_getElem lj) ?_
 simp -dsimp only [o.idx li,B.zd]
 refine o.ld S (List.getElem?_eq_getElem li) ?_
 have ij:=o.idx lj
 refine o.st S (t:=G'[j]) li fun h1 o1=> ?_
 simp -dsimp only [ij,B.zd]
 refine o1.st S (t:=G'[i]) (by simpa using lj) fun h2 o2=> ?_
 have e2:V.bin .sub (.int .i64 (j:Int)) (.int .i64 1)=some (.int .i64 ((j-1:Nat):Int)):=by
  rw [V.zgt,wrap_i64 (by omega) (by omega)];congr 2;omega
 simp -dsimp only [add1 (show i<4611686018427387904 by omega),e2,B.zd]
 exact hY (j-1) _ _ (by omega) ⟨i+1,j-1,_,rfl,rfl,by omega,by omega,W.trans (zds li lj hi (by omega) (by omega) hj),o2⟩
theorem zil {f1 f2 f3:Nat} (io:O2I C E C0 fL f1) (im:MedI C E C0 fL f1 f2) (ia:AdjI C E C0 fL f2 f3) (S:zc0 E cs v) (hx:SlX h E.es x (G.map cs) R) (h0le:h0.le h) (hc:zdm C0 v c fL h0) (hl:G.length <= 100000000) {a b:Nat} (hab:a+8 <= b) (hb:b <= G.length) {Q:zQ}
  (hq: ∀ (m:Nat) (hint:Int) h',a <= m->m<b->h.le h'->Q (.tup [.int .i64 (m:Int),.int .i64 hint]) h'):zbo.cps C E C0 fL f2 f3 x (.int .i64 (a:Int)) (.int .i64 (b:Int)) f h Q:=by
 have e1:=zfq (a:=b) (b:=a) (by omega) (by omega)
 simp -dsimp only [zbo.cps,e1,B.zd]
 intro id hid
 have o:=(Owns.start h).zpw hid [.int .i64 0]
 simp only [List.nil_append] at o
 have q4:=quo4 (a:=b-a) (by omega)
 have m1:=mulN (a:=(b-a) / 4) (b:=1) (by omega)
 have m2:=mulN (a:=(b-a) / 4) (b:=2) (by omega)
 have m3:=mulN (a:=(b-a) / 4) (b:=3) (by omega)
 have a1:=zh3 (a:=a) (b:=(b-a) / 4*1) (by omega)
 have a2:=zh3 (a:=a) (b:=(b-a) / 4*2) (by omega)
 have a3:=zh3 (a:=a) (b:=(b-a) / 4*3) (by omega)
 have g8:V.bin .geq (.int .i64 ((b-a:Nat):Int)) (.int .i64 8)=some (.bool true):=by rw [V.zgb,decide_eq_true (by omega)]
 have hc':zdm C0 v c fL h:=⟨fun h2 s t K hle hk=>hc.call h2 s t K (za.le_trans h0le hle) hk⟩
 simp -dsimp only [zbo.k6,zbo.k5,zbo.k4,zbo.k3,q4,B.zd]
 have m1':V.bin .mul (.int .i64 (((b-a) / 4:Nat):Int)) (.int .i64 1)=some (.int .i64 (((b-a) / 4*1:Nat):Int)):=m1
 have m2':V.bin .mul (.int .i64 (((b-a) / 4:Nat):Int)) (.int .i64 2)=some (.int .i64 (((b-a) / 4*2:Nat):Int)):=m2
 have m3':V.bin .mul (.int .i64 (((b-a) / 4:Nat):Int)) (.int .i64 3)=some (.int .i64 (((b-a) / 4*3:Nat):Int)):=m3
 simp -dsimp only [q4,m1',m2',m3',a1,a2,a3,g8,B.cond_true,zbo.k5,zbo.k4,zbo.k3,zbo.k2,B.zd]
 have fin: ∀ (m:Nat) (n':Int) h',a <= m->m<b->Owns h h' [.box (.ptr id 0 0) [.int .i64 n']]->zbo.k1 C E C0 fL f2 f3 Q (.ptr id 0 0) (.int .i64 (m:Int)) h':=fun m n' h' k1 k2 o'=>by
  obtain ⟨id',e,hb'⟩:=o'.zom 0 rfl
  cases e
  have ld:A.ldv h' (.ptr id 0 0)=some (.int .i64 n'):=by rw [zk2 hb'];rfl
  simp -dsimp only [zbo.k1,B.ze4,ld,V.zfy,B.zd]
  refine B.zr (fun _=>hq m _ h' k1 k2 o'.le) (fun _=> ?_)
  refine B.zr (fun _=>hq m _ h' k1 k2 o'.le) (fun _=>hq m _ h' k1 k2 o'.le)
 have g50:V.bin .geq (.int .i64 ((b-a:Nat):Int)) (.int .i64 50)=some (.bool (decide (50 <= b-a))):=geqN (b:=50)
 simp -dsimp only [g50,B.zd]
 refine B.zr (fun hd=> ?_) (fun hd=> ?_)
 ·rw [decide_eq_true_eq] at hd
  refine ia _ _ _ _ _ _ (zes io im S hx hc' o (by omega) (by omega) (by omega) fun i n1 h1 i1 i2 o1=>zbu ?_)
  refine ia _ _ _ _ _ _ (zes io im S hx hc' o1 (by omega) (by omega) (by omega) fun j n2 h2 j1 j2 o2=>zbu ?_)
  refine ia _ _ _ _ _ _ (zes io im S hx hc' o2 (by omega) (by omega) (by omega) fun k n3 h3 k1 k2 o3=>zbu ?_)
  refine im _ _ _ _ _ _ _ _ (zha io S hx hc' o3 (by omega) (by omega) (by omega) fun m n4 h4 hm o4=>zbu ?_)
  exact fin m n4 h4 (by omega) (by omega) o4
 ·refine im _ _ _ _ _ _ _ _ (zha io S hx hc' o (by omega) (by omega) (by omega) fun m n4 h4 hm o4=>zbu ?_)
  exact fin m n4 h4 (by omega) (by omega) o4
end
section
variable {E:zz} {X:Type} {cs:X->List AVal} {v:X->AVal} {h0 h:za} {x f:AVal} {G:List X} {R:List (List AVal)} {c:X->X->Int} {Q:zQ} {Y1:zL} {a b i j:Nat}
theorem part_j (S:zc0 E cs v) (hc:zdm C0 v c fL h0) (ho:Rw E cs h0 h x G R) (hl:G.length<4611686018427387904) (hab:a<b) (p:PInv c a b G i j) (hi0:j<i \/ ∀ (h1:i<G.length) (h2:a<G.length),¬ c G[i] G[a]<0)
  (done: ∀ h' j',PInv c a b G i j'->j'<i->Rw E cs h0 h' x G R->zp.k1 C E C0 fL Q x (.int .i64 (a:Int)) (.int .i64 (j':Int)) h')
  (next: ∀ h' j' (hi:i<G.length) (hj:j'<G.length) ,PInv c a b (swp G i j' hi hj) (i+1) (j'-1)->i<j'->j'<b->Rw E cs h0 h' x (swp G i j' hi hj) R->Y1 [.int .i64 ((i+1:Nat):Int),.int .i64 ((j'-1:Nat):Int)] h'):
  zw (zp.l4 C E C0 fL Q Y1 x (.int .i64 (a:Int)) f (.int .i64 (i:Int))) [.int .i64 (j:Int)] h:=by
 refine zw.intro (fun t vs hh=>hh=h /\ ∃ j':Nat,t=j' /\ vs=[.int .i64 (j':Int)] /\ PInv c a b G i j' /\ (j'<i \/ ∀ (h1:i<G.length) (h2:a<G.length),¬ c G[i] G[a]<0)) j ?_ ⟨rfl,j,rfl,rfl,p,hi0⟩
 rintro Y j' vs hh ⟨rfl,_,rfl,rfl,p,hi0⟩ hY
 have k1:=p.hi;have k2:=p.hij;have k3:=p.hj;have k4:=p.hb
 have la:a<G.length:=by omega
 have lj:j'<G.length:=by omega
 simp -dsimp only [zp.l4,zp.k3,leqN,B.zd]
 by_cases hle:i <= j'
 ·have li:i<G.length:=by omega
  simp -dsimp only [hle,decide_true,B.gd_t,B.zce,ho.idx lj,ho.idx la,B.zd]
  refine ho.ld S (List.getElem?_eq_getElem lj) ?_
  refine ho.ld S (List.getElem?_eq_getElem la) ?_
  refine hc.call _ _ _ _ ho.le ?_
  simp -dsimp only [hle,decide_true,B.gd_t,B.zce,V.zec,V.zf5,B.zev,B.zd]
  refine B.zr (fun hd=> ?_) (fun hd=> ?_)
  ·have hd': ¬ c G[j'] G[a]<0:=by simpa using hd
   have e1:=zfq (a:=j') (b:=1) (by omega) (by omega)
   have e1':V.bin .sub (.int .i64 (j':Int)) (.int .i64 1)=some (.int .i64 ((j'-1:Nat):Int)):=e1
   simp -dsimp only [e1',B.zd]
   refine hY (j'-1) _ _ (by omega) ⟨rfl,j'-1,rfl,rfl,⟨k4,k1,by omega,by omega,p.lo,fun k hk ha q1 q2=> ?_⟩,?_⟩
   ·by_cases e:k=j'
    ·subst e;exact hd'
    ·exact p.hi2 k hk ha (by omega) q2
   ·rcases hi0 with h|h
    ·omega
    ·exact .inr h
  ·have hd':c G[j'] G[a]<0:=by simpa using hd
   have hni: ¬ c G[i] G[a]<0:=by
    rcases hi0 with h|h
    ·omega
    ·exact h li la
   simp -dsimp only [zp.k2,gtrN,show ¬ j'<i by omega,decide_false,B.cond_false,ho.idx lj,ho.idx li,B.zd]
   refine ho.ld S (List.getElem?_eq_getElem lj) ?_
   refine ho.ld S (List.getElem?_eq_getElem li) ?_
   refine ho.st S (t:=G[j']) li fun h1 o1=> ?_
   refine o1.st S (t:=G[i]) (by simpa using lj) fun h2 o2=> ?_
   have e1':V.bin .sub (.int .i64 (j':Int)) (.int .i64 1)=some (.int .i64 ((j'-1:Nat):Int)):=zfq (a:=j') (b:=1) (by omega) (by omega)
   simp -dsimp only [add1 (show i<4611686018427387904 by omega),e1',B.zd]
   have hne:i≠j':=fun e=>by subst e;exact hni hd'
   exact next h2 j' li lj (p.swap hle li lj la hni hd') (by omega) k3 o2
 ·simp -dsimp only [hle,decide_false,B.gd_t,B.zdw,B.ze2,B.cond_false,zp.k2,gtrN,show j'<i by omega,decide_true,B.cond_true,B.zd]
  exact done hh j' p (by omega) ho
theorem part_i (S:zc0 E cs v) (hc:zdm C0 v c fL h0) (ho:Rw E cs h0 h x G R) (hl:G.length<4611686018427387904) (hab:a<b) (p:PInv c a b G i j)
  (done: ∀ h' i' j',PInv c a b G i' j'->j'<i'->Rw E cs h0 h' x G R->zp.k1 C E C0 fL Q x (.int .i64 (a:Int)) (.int .i64 (j':Int)) h')
  (next: ∀ h' i' j' (hi:i'<G.length) (hj:j'<G.length),PInv c a b (swp G i' j' hi hj) (i'+1) (j'-1)->a<i'->i <= i'->i'<j'->j'<b->Rw E cs h0 h' x (swp G i' j' hi hj) R->Y1 [.int .i64 ((i'+1:Nat):Int),.int .i64 ((j'-1:Nat):Int)] h'):
  zw (zp.l6 C E C0 fL Q Y1 x (.int .i64 (a:Int)) f (.int .i64 (j:Int))) [.int .i64 (i:Int)] h:=by
 refine zw.intro (fun t vs hh=>hh=h /\ ∃ i':Nat,i'+t=b /\ i <= i' /\ vs=[.int .i64 (i':Int)] /\ PInv c a b G i' j) (b-i) ?_ ⟨rfl,i,by have:=p.hij;have:=p.hj;omega,Nat.le_refl _,rfl,p⟩
 rintro Y t vs hh ⟨rfl,i',hit,hii,rfl,p⟩ hY
 have k1:=p.hi;have k2:=p.hij;have k3:=p.hj;have k4:=p.hb
 have la:a<G.length:=by omega
 simp -dsimp only [zp.l6,zp.k5,leqN,B.zd]
 by_cases hle:i' <= j
 ·have li:i'<G.length:=by omega
  simp -dsimp only [hle,decide_true,B.gd_t,B.zce,ho.idx li,ho.idx la,B.zd]
  refine ho.ld S (List.getElem?_eq_getElem li) ?_
  refine ho.ld S (List.getElem?_eq_getElem la) ?_
  refine hc.call _ _ _ _ ho.le ?_
  simp -dsimp only [hle,decide_true,B.gd_t,B.zce,V.zec,B.zev,B.zd]
  refine B.zr (fun hd=> ?_) (fun hd=> ?_)
  ·have hd':c G[i'] G[a]<0:=by simpa using hd
   simp -dsimp only [add1 (show i'<4611686018427387904 by omega),B.zd]
   refine hY (b-(i'+1)) _ _ (by omega) ⟨rfl,i'+1,by omega,by omega,rfl,⟨k4,by omega,k3,by omega,fun k hk ha q1 q2=> ?_,p.hi2⟩⟩
   by_cases e:k=i'
   ·subst e;exact hd'
   ·exact p.lo k hk ha q1 (by omega)
  ·have hd': ¬ c G[i'] G[a]<0:=by simpa using hd
   exact part_j S hc ho hl hab p (.inr fun _ _=>hd') (fun h' j' p' hlt o'=>done h' i' j' p' hlt o') fun h' j' hi hj p' h1 h2 o'=>next h' i' j' hi hj p' k1 hii h1 h2 o'
 ·simp -dsimp only [hle,decide_false,B.gd_t,B.zdw,B.ze2,B.cond_false]
  exact part_j S hc ho hl hab p (.inl (by omega)) (fun h' j' p' hlt o'=>done h' i' j' p' hlt o') fun h' j' hi hj p' h1 h2 o'=>next h' i' j' hi hj p' k1 hii h1 h2 o'
theorem part_end (S:zc0 E cs v) (ho:Rw E cs h0 h x G R) (hab:a<b) (p:PInv c a b G i j) (hlt:j<i) (hq: ∀ h' m G',zis c a b m G'->zcg a b G G'->Rw E cs h0 h' x G' R->Q (.tup [.int .i64 (m:Int),.bool false]) h'):
  zp.k1 C E C0 fL Q x (.int .i64 (a:Int)) (.int .i64 (j:Int)) h:=by
 have k1:=p.hi;have k2:=p.hij;have k3:=p.hj;have k4:=p.hb
 have la:a<G.length:=by omega
 have lj:j<G.length:=by omega
 simp -dsimp only [zp.k1,ho.idx lj,ho.idx la,B.zd]
 refine ho.ld S (List.getElem?_eq_getElem la) ?_
 refine ho.ld S (List.getElem?_eq_getElem lj) ?_
 refine ho.st S (t:=G[a]) lj fun h1 o1=> ?_
 refine o1.st S (t:=G[j]) (by simpa using la) fun h2 o2=> ?_
 exact hq h2 j _ (p.done hab hlt lj la) (zds lj la (by omega) k3 (Nat.le_refl _) hab) o2
theorem zpo (S:zc0 E cs v) (hc:zdm C0 v c fL h0) (ho:Rw E cs h0 h x G R) (hl:G.length<4611686018427387904) (hab:a<b) (p:PInv c a b G i j)
  (hq: ∀ h' m G',zis c a b m G'->zcg a b G G'->Rw E cs h0 h' x G' R->Q (.tup [.int .i64 (m:Int),.bool false]) h'):
  zw (zp.l7 C E C0 fL Q x (.int .i64 (a:Int)) f) [.int .i64 (i:Int),.int .i64 (j:Int)] h:=by
 refine zw.intro (fun t vs hh=> ∃ (i' j':Nat) (G':List X),i'+t=b /\ vs=[.int .i64 (i':Int),.int .i64 (j':Int)] /\ zcg a b G G' /\ PInv c a b G' i' j' /\ Rw E cs h0 hh x G' R) (b-i) ?_ ⟨i,j,G,by have:=p.hij;have:=p.hj;omega,rfl,zcg.refl _ _ _,p,ho⟩
 rintro Y t vs hh ⟨i',j',G',hit,rfl,W,p,o⟩ hY
 have hlen:=W.len
 simp -dsimp only [zp.l7]
 refine part_i S hc o (by omega) hab p (fun h' i2 j2 p2 hlt o2=>part_end S o2 hab p2 hlt fun h3 m G3 P3 W3 o3=>hq h3 m G3 P3 (W.trans W3) o3) fun h' i2 j2 hi hj p2 h1 h2 h3 h4 o2=> ?_
 exact hY (b-(i2+1)) _ _ (by omega) ⟨i2+1,j2-1,_,by omega,rfl,W.trans (zds hi hj (by omega) (by omega) (by omega) h4),p2,o2⟩
end
section
variable {E:zz} {X:Type} {cs:X->List AVal} {v:X->AVal} {h0 h:za} {x f:AVal} {G:List X} {R:List (List AVal)} {c:X->X->Int} {Q:zQ} {a b i j:Nat}
theorem zmu (S:zc0 E cs v) (hc:zdm C0 v c fL h0) (ho:Rw E cs h0 h x G R) (hl:G.length<4611686018427387904) (hab:a<b) (p:PInv c a b G i j)
  (hd:j<i \/ ∃ (h1:i<G.length) (h2:a<G.length) (h3:j<G.length),i <= j /\ ¬ c G[i] G[a]<0 /\ c G[j] G[a]<0) (hq:PartQ E cs h0 x c a b R G Q):
  zp.k10 C E C0 fL Q x (.int .i64 (a:Int)) f (.int .i64 (i:Int)) (.int .i64 (j:Int)) h:=by
 have k1:=p.hi;have k2:=p.hij;have k3:=p.hj;have k4:=p.hb
 have la:a<G.length:=by omega
 have lj:j<G.length:=by omega
 rcases hd with hlt|⟨li,_,_,hle,n1,n2⟩
 ·simp -dsimp only [zp.k10,gtrN,hlt,decide_true,B.cond_true,ho.idx lj,ho.idx la,B.zd]
  refine ho.ld S (List.getElem?_eq_getElem la) ?_
  refine ho.ld S (List.getElem?_eq_getElem lj) ?_
  refine ho.st S (t:=G[a]) lj fun h1 o1=> ?_
  refine o1.st S (t:=G[j]) (by simpa using la) fun h2 o2=> ?_
  exact hq h2 j _ true (p.done hab hlt lj la) (zds lj la (by omega) k3 (Nat.le_refl _) hab) o2
 ·simp -dsimp only [zp.k10,zp.k9,gtrN,show ¬ j<i by omega,decide_false,B.cond_false,ho.idx lj,ho.idx li,B.zd]
  refine ho.ld S (List.getElem?_eq_getElem lj) ?_
  refine ho.ld S (List.getElem?_eq_getElem li) ?_
  refine ho.st S (t:=G[j]) li fun h1 o1=> ?_
  refine o1.st S (t:=G[i]) (by simpa using lj) fun h2 o2=> ?_
  have hne:i≠j:=fun e=>by subst e;exact n1 n2
  have e1':V.bin .sub (.int .i64 (j:Int)) (.int .i64 1)=some (.int .i64 ((j-1:Nat):Int)):=zfq (a:=j) (b:=1) (by omega) (by omega)
  simp -dsimp only [zp.k8,add1 (show i<4611686018427387904 by omega),e1',B.zd]
  have W:=zds li lj (by omega) (by omega) (by omega:a <= j) k3
  exact zpo S hc (G:=swp G i j li lj) o2 (by rw [zg4 li lj];omega) hab (p.swap hle li lj la n1 n2) fun h' m G' P' W' o'=>hq h' m G' false P' (W.trans W') o'
theorem zpp (S:zc0 E cs v) (hc:zdm C0 v c fL h0) (ho:Rw E cs h0 h x G R) (hl:G.length<4611686018427387904) (hab:a<b) (p:PInv c a b G i j) (hi0:j<i \/ ∀ (h1:i<G.length) (h2:a<G.length),¬ c G[i] G[a]<0) (hq:PartQ E cs h0 x c a b R G Q):
  zw (zp.l12 C E C0 fL Q x (.int .i64 (a:Int)) f (.int .i64 (i:Int))) [.int .i64 (j:Int)] h:=by
 refine zw.intro (fun t vs hh=>hh=h /\ ∃ j':Nat,t=j' /\ vs=[.int .i64 (j':Int)] /\ PInv c a b G i j' /\ (j'<i \/ ∀ (h1:i<G.length) (h2:a<G.length),¬ c G[i] G[a]<0)) j ?_ ⟨rfl,j,rfl,rfl,p,hi0⟩
 rintro Y j' vs hh ⟨rfl,_,rfl,rfl,p,hi0⟩ hY
 have k1:=p.hi;have k2:=p.hij;have k3:=p.hj;have k4:=p.hb
 have la:a<G.length:=by omega
 have lj:j'<G.length:=by omega
 simp -dsimp only [zp.l12,zp.k11,leqN,B.zd]
 by_cases hle:i <= j'
 ·have li:i<G.length:=by omega
  simp -dsimp only [hle,decide_true,B.gd_t,B.zce,ho.idx lj,ho.idx la,B.zd]
  refine ho.ld S (List.getElem?_eq_getElem lj) ?_
  refine ho.ld S (List.getElem?_eq_getElem la) ?_
  refine hc.call _ _ _ _ ho.le ?_
  simp -dsimp only [hle,decide_true,B.gd_t,B.zce,V.zec,V.zf5,B.zev,B.zd]
  refine B.zr (fun hd=> ?_) (fun hd=> ?_)
  ·have hd': ¬ c G[j'] G[a]<0:=by simpa using hd
   have e1':V.bin .sub (.int .i64 (j':Int)) (.int .i64 1)=some (.int .i64 ((j'-1:Nat):Int)):=zfq (a:=j') (b:=1) (by omega) (by omega)
   simp -dsimp only [e1',B.zd]
   refine hY (j'-1) _ _ (by omega) ⟨rfl,j'-1,rfl,rfl,⟨k4,k1,by omega,by omega,p.lo,fun k hk ha q1 q2=> ?_⟩,?_⟩
   ·by_cases e:k=j'
    ·subst e;exact hd'
    ·exact p.hi2 k hk ha (by omega) q2
   ·rcases hi0 with h|h
    ·omega
    ·exact .inr h
  ·have hd':c G[j'] G[a]<0:=by simpa using hd
   have hni: ¬ c G[i] G[a]<0:=by
    rcases hi0 with h|h
    ·omega
    ·exact h li la
   exact zmu S hc ho hl hab p (.inr ⟨li,la,lj,hle,hni,hd'⟩) hq
 ·simp -dsimp only [hle,decide_false,B.gd_t,B.zdw,B.ze2,B.cond_false]
  exact zmu S hc ho hl hab p (.inl (by omega)) hq
theorem part_i1 (S:zc0 E cs v) (hc:zdm C0 v c fL h0) (ho:Rw E cs h0 h x G R) (hl:G.length<4611686018427387904) (hab:a<b) (p:PInv c a b G i j) (hq:PartQ E cs h0 x c a b R G Q):
  zw (zp.l14 C E C0 fL Q x (.int .i64 (a:Int)) f (.int .i64 (j:Int))) [.int .i64 (i:Int)] h:=by
 refine zw.intro (fun t vs hh=>hh=h /\ ∃ i':Nat,i'+t=b /\ vs=[.int .i64 (i':Int)] /\ PInv c a b G i' j) (b-i) ?_ ⟨rfl,i,by have:=p.hij;have:=p.hj;omega,rfl,p⟩
 rintro Y t vs hh ⟨rfl,i',hit,rfl,p⟩ hY
 have k1:=p.hi;have k2:=p.hij;have k3:=p.hj;have k4:=p.hb
 have la:a<G.length:=by omega
 simp -dsimp only [zp.l14,zp.k13,leqN,B.zd]
 by_cases hle:i' <= j
 ·have li:i'<G.length:=by omega
  simp -dsimp only [hle,decide_true,B.gd_t,B.zce,ho.idx li,ho.idx la,B.zd]
  refine ho.ld S (List.getElem?_eq_getElem li) ?_
  refine ho.ld S (List.getElem?_eq_getElem la) ?_
  refine hc.call _ _ _ _ ho.le ?_
  simp -dsimp only [hle,decide_true,B.gd_t,B.zce,V.zec,B.zev,B.zd]
  refine B.zr (fun hd=> ?_) (fun hd=> ?_)
  ·have hd':c G[i'] G[a]<0:=by simpa using hd
   simp -dsimp only [add1 (show i'<4611686018427387904 by omega),B.zd]
   refine hY (b-(i'+1)) _ _ (by omega) ⟨rfl,i'+1,by omega,rfl,⟨k4,by omega,k3,by omega,fun k hk ha q1 q2=> ?_,p.hi2⟩⟩
   by_cases e:k=i'
   ·subst e;exact hd'
   ·exact p.lo k hk ha q1 (by omega)
  ·have hd': ¬ c G[i'] G[a]<0:=by simpa using hd
   exact zpp S hc ho hl hab p (.inr fun _ _=>hd') hq
 ·simp -dsimp only [hle,decide_false,B.gd_t,B.zdw,B.ze2,B.cond_false]
  exact zpp S hc ho hl hab p (.inl (by omega)) hq
theorem zjt (S:zc0 E cs v) (hc:zdm C0 v c fL h0) (ho:Rw E cs h0 h x G R) (hl:G.length<4611686018427387904) {pv:Nat} (hp1:a <= pv) (hp2:pv<b) (hb:b <= G.length) (hq:PartQ E cs h0 x c a b R G Q):
  zp.cps C E C0 fL x (.int .i64 (a:Int)) (.int .i64 (b:Int)) (.int .i64 (pv:Int)) f h Q:=by
 have la:a<G.length:=by omega
 have lp:pv<G.length:=by omega
 simp -dsimp only [zp.cps,zp.k16,ho.idx lp,ho.idx la,B.zd]
 refine ho.ld S (List.getElem?_eq_getElem lp) ?_
 refine ho.ld S (List.getElem?_eq_getElem la) ?_
 refine ho.st S (t:=G[pv]) la fun h1 o1=> ?_
 refine o1.st S (t:=G[a]) (by simpa using lp) fun h2 o2=> ?_
 have e1':V.bin .sub (.int .i64 (b:Int)) (.int .i64 1)=some (.int .i64 ((b-1:Nat):Int)):=zfq (a:=b) (b:=1) (by omega) (by omega)
 simp -dsimp only [zp.k15,add1 (show a<4611686018427387904 by omega),e1',B.zd]
 have W:=zds la lp (Nat.le_refl _) (by omega) hp1 hp2
 have hsl:=zg4 la lp
 refine part_i1 S hc (G:=swp G a pv la lp) o2 (by omega) (by omega) ⟨by omega,by omega,by omega,by omega,fun k _ _ q1 q2=>by omega,fun k _ _ q1 q2=>by omega⟩ fun h' m G' t P' W' o'=>hq h' m G' t P' (W.trans W') o'
end
section
variable {E:zz} {X:Type} {cs:X->List AVal} {v:X->AVal} {h0 h:za} {x f:AVal} {G:List X} {R:List (List AVal)} {c:X->X->Int} {Q:zQ} {Y1:zL} {a b i j:Nat}
theorem eq_j (S:zc0 E cs v) (hc:zdm C0 v c fL h0) (ho:Rw E cs h0 h x G R) (hl:G.length<4611686018427387904) (hab:a<b) (p:EInv c a b G i j) (hi0:j<i \/ ∀ (h1:i<G.length) (h2:a<G.length),c G[a] G[i]<0)
  (done: ∀ h' j',EInv c a b G i j'->j'<i->Rw E cs h0 h' x G R->Q (.int .i64 (i:Int)) h')
  (next: ∀ h' j' (hi:i<G.length) (hj:j'<G.length),EInv c a b (swp G i j' hi hj) (i+1) (j'-1)->i<j'->j'<b->Rw E cs h0 h' x (swp G i j' hi hj) R->Y1 [.int .i64 ((i+1:Nat):Int),.int .i64 ((j'-1:Nat):Int)] h'):
  zw (zba.l3 C E C0 fL Q Y1 x (.int .i64 (a:Int)) f (.int .i64 (i:Int))) [.int .i64 (j:Int)] h:=by
 refine zw.intro (fun t vs hh=>hh=h /\ ∃ j':Nat,t=j' /\ vs=[.int .i64 (j':Int)] /\ EInv c a b G i j' /\ (j'<i \/ ∀ (h1:i<G.length) (h2:a<G.length),c G[a] G[i]<0)) j ?_ ⟨rfl,j,rfl,rfl,p,hi0⟩
 rintro Y j' vs hh ⟨rfl,_,rfl,rfl,p,hi0⟩ hY
 have k1:=p.hi;have k2:=p.hij;have k3:=p.hj;have k4:=p.hb
 have la:a<G.length:=by omega
 have lj:j'<G.length:=by omega
 simp -dsimp only [zba.l3,zba.k2,leqN,B.zd]
 by_cases hle:i <= j'
 ·have li:i<G.length:=by omega
  simp -dsimp only [hle,decide_true,B.gd_t,B.zce,ho.idx lj,ho.idx la,B.zd]
  refine ho.ld S (List.getElem?_eq_getElem la) ?_
  refine ho.ld S (List.getElem?_eq_getElem lj) ?_
  refine hc.call _ _ _ _ ho.le ?_
  simp -dsimp only [hle,decide_true,B.gd_t,B.zce,V.zec,B.zev,B.zd]
  refine B.zr (fun hd=> ?_) (fun hd=> ?_)
  ·have hd':c G[a] G[j']<0:=by simpa using hd
   have e1':V.bin .sub (.int .i64 (j':Int)) (.int .i64 1)=some (.int .i64 ((j'-1:Nat):Int)):=zfq (a:=j') (b:=1) (by omega) (by omega)
   simp -dsimp only [e1',B.zd]
   refine hY (j'-1) _ _ (by omega) ⟨rfl,j'-1,rfl,rfl,⟨k4,k1,by omega,by omega,p.lo,fun k hk ha q1 q2=> ?_⟩,?_⟩
   ·by_cases e:k=j'
    ·subst e;exact hd'
    ·exact p.hi2 k hk ha (by omega) q2
   ·rcases hi0 with h|h
    ·omega
    ·exact .inr h
  ·have hd': ¬ c G[a] G[j']<0:=by simpa using hd
   have hni:c G[a] G[i]<0:=by
    rcases hi0 with h|h
    ·omega
    ·exact h li la
   simp -dsimp only [zba.k1,gtrN,show ¬ j'<i by omega,decide_false,B.cond_false,ho.idx lj,ho.idx li,B.zd]
   refine ho.ld S (List.getElem?_eq_getElem lj) ?_
   refine ho.ld S (List.getElem?_eq_getElem li) ?_
   refine ho.st S (t:=G[j']) li fun h1 o1=> ?_
   refine o1.st S (t:=G[i]) (by simpa using lj) fun h2 o2=> ?_
   have e1':V.bin .sub (.int .i64 (j':Int)) (.int .i64 1)=some (.int .i64 ((j'-1:Nat):Int)):=zfq (a:=j') (b:=1) (by omega) (by omega)
   simp -dsimp only [add1 (show i<4611686018427387904 by omega),e1',B.zd]
   have hne:i≠j':=fun e=>by subst e;exact hd' hni
   exact next h2 j' li lj (p.swap hle li lj la hni hd') (by omega) k3 o2
 ·simp -dsimp only [hle,decide_false,B.gd_t,B.zdw,B.ze2,B.cond_false,zba.k1,gtrN,show j'<i by omega,decide_true,B.cond_true,B.zd]
  exact done hh j' p (by omega) ho
theorem eq_i (S:zc0 E cs v) (hc:zdm C0 v c fL h0) (ho:Rw E cs h0 h x G R) (hl:G.length<4611686018427387904) (hab:a<b) (p:EInv c a b G i j)
  (done: ∀ h' i' j',EInv c a b G i' j'->j'<i'->Rw E cs h0 h' x G R->Q (.int .i64 (i':Int)) h')
  (next: ∀ h' i' j' (hi:i'<G.length) (hj:j'<G.length),EInv c a b (swp G i' j' hi hj) (i'+1) (j'-1)->a<i'->i <= i'->i'<j'->j'<b->Rw E cs h0 h' x (swp G i' j' hi hj) R->Y1 [.int .i64 ((i'+1:Nat):Int),.int .i64 ((j'-1:Nat):Int)] h'):
  zw (zba.l5 C E C0 fL Q Y1 x (.int .i64 (a:Int)) f (.int .i64 (j:Int))) [.int .i64 (i:Int)] h:=by
 refine zw.intro (fun t vs hh=>hh=h /\ ∃ i':Nat,i'+t=b /\ i <= i' /\ vs=[.int .i64 (i':Int)] /\ EInv c a b G i' j) (b-i) ?_ ⟨rfl,i,by have:=p.hij;have:=p.hj;omega,Nat.le_refl _,rfl,p⟩
 rintro Y t vs hh ⟨rfl,i',hit,hii,rfl,p⟩ hY
 have k1:=p.hi;have k2:=p.hij;have k3:=p.hj;have k4:=p.hb
 have la:a<G.length:=by omega
 simp -dsimp only [zba.l5,zba.k4,leqN,B.zd]
 by_cases hle:i' <= j
 ·have li:i'<G.length:=by omega
  simp -dsimp only [hle,decide_true,B.gd_t,B.zce,ho.idx li,ho.idx la,B.zd]
  refine ho.ld S (List.getElem?_eq_getElem la) ?_
  refine ho.ld S (List.getElem?_eq_getElem li) ?_
  refine hc.call _ _ _ _ ho.le ?_
  simp -dsimp only [hle,decide_true,B.gd_t,B.zce,V.zec,V.zf5,B.zev,B.zd]
  refine B.zr (fun hd=> ?_) (fun hd=> ?_)
  ·have hd': ¬ c G[a] G[i']<0:=by simpa using hd
   simp -dsimp only [add1 (show i'<4611686018427387904 by omega),B.zd]
   refine hY (b-(i'+1)) _ _ (by omega) ⟨rfl,i'+1,by omega,by omega,rfl,⟨k4,by omega,k3,by omega,fun k hk ha q1 q2=> ?_,p.hi2⟩⟩
   by_cases e:k=i'
   ·subst e;exact hd'
   ·exact p.lo k hk ha q1 (by omega)
  ·have hd':c G[a] G[i']<0:=by simpa using hd
   exact eq_j S hc ho hl hab p (.inr fun _ _=>hd') (fun h' j' p' hlt o'=>done h' i' j' p' hlt o') fun h' j' hi hj p' h1 h2 o'=>next h' i' j' hi hj p' k1 hii h1 h2 o'
 ·simp -dsimp only [hle,decide_false,B.gd_t,B.zdw,B.ze2,B.cond_false]
  exact eq_j S hc ho hl hab p (.inl (by omega)) (fun h' j' p' hlt o'=>done h' i' j' p' hlt o') fun h' j' hi hj p' h1 h2 o'=>next h' i' j' hi hj p' k1 hii h1 h2 o'
theorem eq_main (S:zc0 E cs v) (hc:zdm C0 v c fL h0) (ho:Rw E cs h0 h x G R) (hl:G.length<4611686018427387904) (hab:a<b) (p:EInv c a b G i j)
  (hq: ∀ h' i' j' G',EInv c a b G' i' j'->j'<i'->zcg (a+1) b G G'->Rw E cs h0 h' x G' R->Q (.int .i64 (i':Int)) h'):
  zw (zba.l6 C E C0 fL Q x (.int .i64 (a:Int)) f) [.int .i64 (i:Int),.int .i64 (j:Int)] h:=by
 refine zw.intro (fun t vs hh=> ∃ (i' j':Nat) (G':List X),i'+t=b /\ vs=[.int .i64 (i':Int),.int .i64 (j':Int)] /\ zcg (a+1) b G G' /\ EInv c a b G' i' j' /\ Rw E cs h0 hh x G' R) (b-i) ?_ ⟨i,j,G,by have:=p.hij;have:=p.hj;omega,rfl,zcg.refl _ _ _,p,ho⟩
 rintro Y t vs hh ⟨i',j',G',hit,rfl,W,p,o⟩ hY
 have hlen:=W.len
 simp -dsimp only [zba.l6]
 refine eq_i S hc o (by omega) hab p (fun h' i2 j2 p2 hlt o2=>hq h' i2 j2 G' p2 hlt W o2) fun h' i2 j2 hi hj p2 h1 h2 h3 h4 o2=> ?_
 exact hY (b-(i2+1)) _ _ (by omega) ⟨i2+1,j2-1,_,by omega,rfl,W.trans (zds hi hj (by omega) (by omega) (by omega) h4),p2,o2⟩
theorem zg7 (S:zc0 E cs v) (hc:zdm C0 v c fL h0) (ho:Rw E cs h0 h x G R) (hl:G.length<4611686018427387904) {pv:Nat} (hp1:a <= pv) (hp2:pv<b) (hb:b <= G.length)
  (hq: ∀ h' i' j' G',EInv c a b G' i' j'->j'<i'->zcg a b G G'->(∀ (h1:a<G'.length) (h2:pv<G.length),G'[a]=G[pv])->Rw E cs h0 h' x G' R->Q (.int .i64 (i':Int)) h'):
  zba.cps C E C0 fL x (.int .i64 (a:Int)) (.int .i64 (b:Int)) (.int .i64 (pv:Int)) f h Q:=by
 have la:a<G.length:=by omega
 have lp:pv<G.length:=by omega
 simp -dsimp only [zba.cps,zba.k8,ho.idx lp,ho.idx la,B.zd]
 refine ho.ld S (List.getElem?_eq_getElem lp) ?_
 refine ho.ld S (List.getElem?_eq_getElem la) ?_
 refine ho.st S (t:=G[pv]) la fun h1 o1=> ?_
 refine o1.st S (t:=G[a]) (by simpa using lp) fun h2 o2=> ?_
 have e1':V.bin .sub (.int .i64 (b:Int)) (.int .i64 1)=some (.int .i64 ((b-1:Nat):Int)):=zfq (a:=b) (b:=1) (by omega) (by omega)
 simp -dsimp only [zba.k7,add1 (show a<4611686018427387904 by omega),e1',B.zd]
 have W:=zds la lp (Nat.le_refl _) (by omega) hp1 hp2
 have hsl:=zg4 la lp
 refine eq_main S hc (G:=swp G a pv la lp) o2 (by omega) (by omega) ⟨by omega,by omega,by omega,by omega,fun k _ _ q1 q2=>by omega,fun k _ _ q1 q2=>by omega⟩ fun h' i' j' G' p' hlt W' o'=>hq h' i' j' G' p' hlt (W.trans (W'.mono (by omega) (Nat.le_refl _))) (fun h1 h2=> ?_) o'
 rw [W'.same (.inl (by omega)) h1 (by omega),zfp la lp (by omega) la]
 split
 ·rename_i e;simp only [e]
 ·rw [if_pos rfl]
end
section
variable {X:Type} {c:X->X->Int} {a n lo r ch:Nat} {G:List X}
end
section
variable {E:zz} {X:Type} {cs:X->List AVal} {v:X->AVal} {h0 h:za} {x f:AVal} {G:List X} {R:List (List AVal)} {c:X->X->Int} {Q:zQ} {Y1:zL} {a n lo r ch:Nat}
theorem sift_k1 (S:zc0 E cs v) (W:Weak (zd9 c)) (hc:zdm C0 v c fL h0) (ho:Rw E cs h0 h x G R) (hl:G.length<1000000000) (p:SInv c a n lo r G) (hlo:lo <= r) (hch:ch<n) (hp:(ch-1) / 2=r) (hc0:0<ch)
  (hmax: ∀ k,0<k->k<n->(k-1) / 2=r->(h1:a+ch<G.length)->(h2:a+k<G.length)-> ¬ c G[a+ch] G[a+k]<0)
  (done: ∀ h',Heap c a n lo G->Rw E cs h0 h' x G R->Q (.tup []) h')
  (next: ∀ h' (hr:a+r<G.length) (hcl:a+ch<G.length),SInv c a n lo ch (swp G (a+r) (a+ch) hr hcl)->Rw E cs h0 h' x (swp G (a+r) (a+ch) hr hcl) R->Y1 [.int .i64 (ch:Int)] h'):
  zde.k1 C E C0 fL Q Y1 x (.int .i64 (n:Int)) (.int .i64 (a:Int)) f (.int .i64 (r:Int)) (.int .i64 (ch:Int)) h:=by
 have hlen:=p.len
 have lr:a+r<G.length:=by omega
 have lc:a+ch<G.length:=by omega
 have ar:=zh3 (a:=a) (b:=r) (by omega)
 have ac:=zh3 (a:=a) (b:=ch) (by omega)
 simp -dsimp only [zde.k1,ar,ac,ho.idx lr,ho.idx lc,B.zd]
 refine ho.ld S (List.getElem?_eq_getElem lr) ?_
 refine ho.ld S (List.getElem?_eq_getElem lc) ?_
 refine hc.call _ _ _ _ ho.le ?_
 simp -dsimp only [V.zec,V.zf5,B.zd]
 refine B.zr (fun hd=> ?_) (fun hd=> ?_)
 ·have hd': ¬ c G[a+r] G[a+ch]<0:=by simpa using hd
  refine done h (p.done fun k k0 hk hkp h1 h2=> ?_) ho
  have:=W.zl2 (a:=G[a+r]) (b:=G[a+ch]) (c:=G[a+k]) (by unfold zd9;exact decide_eq_false hd') (by unfold zd9;exact decide_eq_false (hmax k k0 hk hkp lc h2))
  unfold zd9 at this;exact of_decide_eq_false this
 ·have hd':c G[a+r] G[a+ch]<0:=by simpa using hd
  simp -dsimp only [ar,ac,ho.idx lr,ho.idx lc,B.zd]
  refine ho.ld S (List.getElem?_eq_getElem lc) ?_
  refine ho.ld S (List.getElem?_eq_getElem lr) ?_
  refine ho.st S (t:=G[a+ch]) lr fun h1 o1=> ?_
  refine o1.st S (t:=G[a+r]) (by simpa using lc) fun h2 o2=> ?_
  exact next h2 lr lc (p.step W hlo hch hp hc0 lr lc hd' fun k k0 hk hkp h2=>hmax k k0 hk hkp lc h2) o2
theorem zhk (S:zc0 E cs v) (W:Weak (zd9 c)) (hc:zdm C0 v c fL h0) (ho:Rw E cs h0 h x G R) (hl:G.length<1000000000) (p:SInv c a n lo r G) (hlo:lo <= r) (hrn:r <= n) {b:Nat} (hb:a+n <= b)
  (hq: ∀ h' G',Heap c a n lo G'->zcg a b G G'->Rw E cs h0 h' x G' R->Q (.tup []) h'):
  zde.cps C E C0 fL x (.int .i64 (r:Int)) (.int .i64 (n:Int)) (.int .i64 (a:Int)) f h Q:=by
 simp -dsimp only [zde.cps]
 refine zw.intro (fun t vs hh=> ∃ (r':Nat) (G':List X),r'+t=n /\ vs=[.int .i64 (r':Int)] /\ lo <= r' /\ SInv c a n lo r' G' /\ zcg a b G G' /\ Rw E cs h0 hh x G' R) (n-r) ?_ ⟨r,G,by omega,rfl,hlo,p,zcg.refl _ _ _,ho⟩
 rintro Y t vs hh ⟨r',G',hrt,rfl,hlo',p',W',o⟩ hY
 have hlen:=W'.len
 have pl:=p'.len
 have e1:V.bin .mul (.int .i64 2) (.int .i64 (r':Int))=some (.int .i64 ((2*r':Nat):Int)):=mulN (a:=2) (b:=r') (by omega)
 simp -dsimp only [zde.l4,zde.k3,e1,add1 (show 2*r'<4611686018427387904 by omega),geqN,B.zd]
 refine B.zr (fun hd=> ?_) (fun hd=> ?_)
 ·rw [decide_eq_true_eq] at hd
  exact hq hh G' (p'.done fun k k0 hk hkp _ _=>by omega) W' o
 ·rw [decide_eq_false_iff_not] at hd
  have fin: ∀ ch,ch<n->(ch-1) / 2=r'->0<ch->(∀ k,0<k->k<n->(k-1) / 2=r'->(h1:a+ch<G'.length)->(h2:a+k<G'.length)-> ¬ c G'[a+ch] G'[a+k]<0)->zde.k1 C E C0 fL Q Y x (.int .i64 (n:Int)) (.int .i64 (a:Int)) f (.int .i64 (r':Int)) (.int .i64 (ch:Int)) hh:=fun ch c1 c2 c3 c4=>
   sift_k1 S W hc o (by omega) p' hlo' c1 c2 c3 c4 (fun h' hp o'=>hq h' G' hp W' o') fun h' hr hcl p2 o2=>hY (n-ch) _ _ (by omega) ⟨ch,_,by omega,rfl,by omega,p2,W'.trans (zds hr hcl (by omega) (by omega) (by omega) (by omega)),o2⟩
  have irr: ∀ t:X,¬ c t t<0:=fun t=>by
   have:=W.irr t;unfold zd9 at this;exact of_decide_eq_false this
  have a1:=zh3 (a:=a) (b:=2*r'+1) (by omega)
  simp -dsimp only [zde.k2,add1 (show 2*r'+1<4611686018427387904 by omega),lssN,B.zd]
  by_cases h2:2*r'+1+1<n
  ·have l1:a+(2*r'+1)<G'.length:=by omega
   have l2:a+(2*r'+1)+1<G'.length:=by omega
   simp -dsimp only [h2,decide_true,B.gd_t,B.zce,a1,add1 (show a+(2*r'+1)<4611686018427387904 by omega),o.idx l1,o.idx l2,B.zd]
   refine o.ld S (List.getElem?_eq_getElem l1) ?_
   refine o.ld S (List.getElem?_eq_getElem l2) ?_
   refine hc.call _ _ _ _ o.le ?_
   simp -dsimp only [h2,decide_true,B.gd_t,B.zce,V.zec,B.zev,B.zd]
   refine B.zr (fun hf=> ?_) (fun hf=> ?_)
   ·have hf':c G'[a+(2*r'+1)] G'[a+(2*r'+1)+1]<0:=by simpa using hf
    simp -dsimp only [add1 (show 2*r'+1<4611686018427387904 by omega),B.zd]
    refine fin (2*r'+1+1) h2 (by omega) (by omega) fun k k0 hk hkp h1 h3=> ?_
    rcases (show k=2*r'+1 \/ k=2*r'+1+1 by omega) with rfl|rfl
    ·have:=W.asym (a:=G'[a+(2*r'+1)]) (b:=G'[a+(2*r'+1)+1]) (by unfold zd9;exact decide_eq_true hf')
     unfold zd9 at this;exact of_decide_eq_false this
    ·exact irr _
   ·have hf': ¬ c G'[a+(2*r'+1)] G'[a+(2*r'+1)+1]<0:=by simpa using hf
    refine fin (2*r'+1) (by omega) (by omega) (by omega) fun k k0 hk hkp h1 h3=> ?_
    rcases (show k=2*r'+1 \/ k=2*r'+1+1 by omega) with rfl|rfl
    ·exact irr _
    ·exact hf'
  ·simp -dsimp only [h2,decide_false,B.gd_t,B.zdw,B.ze2,B.cond_false]
   refine fin (2*r'+1) (by omega) (by omega) (by omega) fun k k0 hk hkp h1 h3=> ?_
   have:k=2*r'+1:=by omega
   subst this;exact irr _
end
section
variable {X:Type} {c:X->X->Int} {a b n lo:Nat} {G G':List X}
end
abbrev SiftI (C:CSem) (E:zz) (C0:CSem) (fL:Nat) (f1:Nat):Prop:= ∀ (v0 v1 v2 v3 v4:AVal) (h:za) (Q:zQ),zde.cps C E C0 fL v0 v1 v2 v3 v4 h (dn Q)->C f1 [v0,v1,v2,v3,v4] h Q
section
variable {E:zz} {X:Type} {cs:X->List AVal} {v:X->AVal} {h0 h:za} {x f:AVal} {G:List X} {R:List (List AVal)} {c:X->X->Int} {Q:zQ} {a b:Nat}
theorem zkm (S:zc0 E cs v) (W:Weak (zd9 c)) (hc:zdm C0 v c fL h0) (ho:Rw E cs h0 h x G R) (hl:G.length <= 100000000) (hab:a <= b) (hb:b <= G.length)
  (hq: ∀ h' G',zcg a b G G'->Srt c a b G'->Rw E cs h0 h' x G' R->Q (.tup []) h'):zc6.cps C E C0 fL x (.int .i64 (a:Int)) (.int .i64 (b:Int)) f h Q:=by
 have e0: ∀ (L:List X),(L.map (fun y=>(y,0))).map (fun p:X×Nat=>cs p.1)=L.map cs:=fun L=>by rw [List.map_map];rfl
 have e1: ∀ (L:List (X×Nat)),L.map (fun p:X×Nat=>cs p.1)=(L.map (·.1)).map cs:=fun L=>by rw [List.map_map];rfl
 have lt:(G.take a).length=a:=by rw [List.length_take];omega
 have lm:((G.take b).drop a).length=b-a:=by rw [List.length_drop,List.length_take];omega
 refine zht (P:=(G.take a).map (fun y=>(y,0))) (M:=((G.take b).drop a).zipIdx) (U:=(G.drop b).map (fun y=>(y,0))) S W ?_ ?_ hc ?_ ?_ ?_ ?_ (R:=R) (h0:=h0)
 ·simp only [List.length_append,List.length_map,List.length_zipIdx,lt,lm,List.length_drop];omega
 ·have:(((G.take b).drop a).zipIdx.map (·.2)).Pairwise (· < ·):=by
   rw [List.zipIdx_map_snd];exact List.pairwise_lt_range'
  rwa [List.pairwise_map] at this
 ·rw [List.length_map,lt]
 ·rw [List.length_map,List.length_zipIdx,lt,lm];omega
 ·unfold Rw
  rw [List.map_append,List.map_append,e0,e0,e1,List.zipIdx_map_fst, <- List.map_append, <- List.map_append, <- split3 hab G]
  exact ho
 ·intro h' M' hp hs ho'
  have hp':(M'.map (·.1)).Perm ((G.take b).drop a):=by
   have:=hp.map (·.1);rwa [List.zipIdx_map_fst] at this
  refine hq h' (G.take a++(M'.map (·.1)++G.drop b)) (zqq hab hb hp') (srt_mid hab hb (by rw [hp'.length_eq,lm]) ?_) ?_
  ·rw [List.pairwise_map]
   refine hs.imp fun {x y} hxy=> ?_
   have hx:zd9 c y.1 x.1=false:=hxy.elim (fun h=>W.asym h) fun ⟨h,_⟩=>h
   unfold zd9 at hx;exact of_decide_eq_false hx
  ·unfold Rw at ho' ⊢
   rw [List.map_append,List.map_append,e0,e0,e1] at ho'
   rwa [List.map_append,List.map_append]
theorem zkn {f1:Nat} (is:SiftI C E C0 fL f1) (S:zc0 E cs v) (W:Weak (zd9 c)) (hc:zdm C0 v c fL h0) (ho:Rw E cs h0 h x G R) (hl:G.length <= 100000000) (hab:a<b) (hb:b <= G.length)
  (hq: ∀ h' G',zcg a b G G'->Srt c a b G'->Rw E cs h0 h' x G' R->Q (.tup []) h'):zdf.cps C E C0 fL f1 x (.int .i64 (a:Int)) (.int .i64 (b:Int)) f h Q:=by
 have e1:=zfq (a:=b) (b:=a) (by omega) (by omega)
 obtain ⟨n,hn⟩: ∃ n,n=b-a:=⟨_,rfl⟩
 have e2:V.bin .quo (.int .i64 ((n-1:Nat):Int)) (.int .i64 2)=some (.int .i64 (((n-1) / 2:Nat):Int)):=by
  rw [V.zkr _ _ _ (by omega),show ((n-1:Nat):Int).tdiv 2=(((n-1) / 2:Nat):Int) from rfl,wrap_i64 (by omega) (by omega)]
 have m1: ∀ k:Nat,k <= 100000000->V.bin .sub (.int .i64 (k:Int)) (.int .i64 1)=some (.int .i64 ((k:Int)-1)):=fun k hk=>by
  rw [V.zgt,wrap_i64 (by omega) (by omega)]
 have m2: ∀ k:Nat,k <= 100000000->V.bin .sub (.int .i64 ((k+1:Nat)-1:Int)) (.int .i64 1)=some (.int .i64 ((k:Int)-1)):=fun k hk=>by
  rw [V.zgt,wrap_i64 (by omega) (by omega)];congr 2;omega
 simp -dsimp only [zdf.cps,zdf.k5,e1,B.zd]
 rw [<- hn]
 simp -dsimp only [sub1 (show 1 <= n by omega) (by omega),e2,B.zd]
 refine zw.intro (fun t vs hh=> ∃ (G':List X),vs=[.int .i64 ((t:Int)-1)] /\ t <= n /\ Heap c a n t G' /\ zcg a b G G' /\ Rw E cs h0 hh x G' R) ((n-1) / 2+1) ?_ ⟨G,by congr 2;omega,by omega,Heap.none_ (by omega),zcg.refl _ _ _,ho⟩
 rintro Y t vs hh ⟨G1,rfl,htn,p1,W1,o1⟩ hY
 have l1:=W1.len
 simp -dsimp only [zdf.l4,zdf.k3,V.zgb,B.zd]
 cases t with
 | succ k=>
  rw [show decide ((0:Int) <= ((k+1:Nat):Int)-1)=true by simp,B.cond_true,show (((k+1:Nat):Int)-1)=(k:Int) by omega]
  refine is _ _ _ _ _ _ _ (zhk (b:=b) S W hc o1 (by omega) (p1.sinv (by omega)) (Nat.le_refl _) (by omega) (by omega) fun h2 G2 p2 w2 o2=>zbu ?_)
  simp -dsimp only [m1 k (by omega),B.zd]
  exact hY k _ _ (by omega) ⟨G2,rfl,by omega,p2,W1.trans w2,o2⟩
 | zero=>
  rw [show decide ((0:Int) <= ((0:Nat):Int)-1)=false by simp,B.cond_false]
  simp -dsimp only [m1 n (by omega),B.zd]
  refine zw.intro (fun t vs hh=> ∃ (G':List X),vs=[.int .i64 ((t:Int)-1)] /\ t <= n /\ Heap c a t 0 G' /\ Cut c a b a (a+t) G' /\ zcg a b G G' /\ Rw E cs h0 hh x G' R) n ?_ ⟨G1,rfl,Nat.le_refl _,p1,fun p q _ _ h3 h4=>by omega,W1,o1⟩
  rintro Z t vs hh ⟨G2,rfl,htn,p2,c2,W2,o2⟩ hZ
  have l2:=W2.len
  simp -dsimp only [zdf.l2,zdf.k1,V.zgb,B.zd]
  cases t with
  | zero=>
   rw [show decide ((0:Int) <= ((0:Nat):Int)-1)=false by simp,B.cond_false]
   exact hq hh G2 W2 (c2.small (by omega)) o2
  | succ k=>
   rw [show decide ((0:Int) <= ((k+1:Nat):Int)-1)=true by simp,B.cond_true,show (((k+1:Nat):Int)-1)=(k:Int) by omega]
   have ac:=zh3 (a:=a) (b:=k) (by omega)
   have la:a<G2.length:=by omega
   have lk:a+k<G2.length:=by omega
   simp -dsimp only [ac,o2.idx la,o2.idx lk,B.zd]
   refine o2.ld S (List.getElem?_eq_getElem lk) ?_
   refine o2.ld S (List.getElem?_eq_getElem la) ?_
   refine o2.swap S la lk fun h3 o3=> ?_
   have hsl:=zg4 la lk
   have w3:zcg a (a+(k+1)) G2 (swp G2 a (a+k) la lk):=zds la lk (by omega) (by omega) (by omega) (by omega)
   have c3:=c2.within w3 (Nat.le_refl _) (by omega)
   have c4:Cut c a b a (a+k) (swp G2 a (a+k) la lk):=fun p q h1 h2 h3 h4 h5 h6=>by
    by_cases e:a+(k+1) <= q
    ·exact c3 p q h1 h2 h3 (.inr e) h5 h6
    ·have:q=a+k:=by omega
     subst this
     rw [zfp la lk h6 (by omega),if_pos rfl,zfp la lk h5 (by omega),if_neg (by omega)]
     split
     ·exact p2.root W (by omega) k (by omega)
     ·have:=p2.root W (by omega) (p-a) (by omega)
      simpa only [show a+(p-a)=p by omega] using this
   have s3:SInv c a k 0 0 (swp G2 a (a+k) la lk):=⟨by omega,fun j j0 hj _ hne h1 h2=>by
    rw [zfp la lk h1 (by omega),if_neg (by omega),if_neg (by omega),zfp la lk h2 (by omega),if_neg (by omega),if_neg (by omega)]
    exact p2 j j0 (by omega) (by omega) (by omega) (by omega),fun _ h=>by omega⟩
   refine is _ _ _ _ _ _ _ (zhk (r:=0) (b:=a+k) S W hc o3 (by omega) s3 (Nat.le_refl _) (by omega) (by omega) fun h4 G4 p4 w4 o4=>zbu ?_)
   simp -dsimp only [m1 k (by omega),B.zd]
   exact hZ k _ _ (by omega) ⟨G4,rfl,by omega,p4,c4.within w4 (Nat.le_refl _) (by omega),(W2.trans (w3.mono (Nat.le_refl _) (by omega))).trans (w4.mono (Nat.le_refl _) (by omega)),o4⟩
end
section
variable {X:Type} {c:X->X->Int} {A B j:Nat} {G:List X}
end
section
variable {E:zz} {X:Type} {cs:X->List AVal} {v:X->AVal} {h0 h:za} {x f:AVal} {G:List X} {R:List (List AVal)} {c:X->X->Int} {Q:zQ} {Y1:zL} {a b i s:Nat}
theorem pis_k3 (S:zc0 E cs v) (hc:zdm C0 v c fL h0) (ho:Rw E cs h0 h x G R) (hl:G.length <= 100000000) (hi0:0<i) (hi:i<b) (hb:b <= G.length) (hs:s <= 5)
  (hY: ∀ h' G',zcg i b G G'->Rw E cs h0 h' x G' R->Y1 [.int .i64 (i:Int),.int .i64 ((s+1:Nat):Int)] h'):
  zh.k3 C E C0 fL Q Y1 x (.int .i64 (a:Int)) (.int .i64 (b:Int)) f (.int .i64 (i:Int)) (.int .i64 (s:Int)) h:=by
 have hge:V.bin .geq (.int .i64 ((b-i:Nat):Int)) (.int .i64 2)=some (.bool (decide (2 <= b-i))):=geqN (b:=2)
 simp -dsimp only [zh.k3,zfq (show i <= b by omega) (by omega),hge,add1 (show s<4611686018427387904 by omega),add1 (show i<4611686018427387904 by omega),B.zd]
 refine B.zr (fun hd=> ?_) (fun hd=> ?_)
 rotate_left
 ·simp -dsimp only [add1 (show s<4611686018427387904 by omega),B.zd]
  exact hY h G (zcg.refl _ _ _) ho
 rw [decide_eq_true_eq] at hd
 simp -dsimp only [add1 (show i<4611686018427387904 by omega),B.zd]
 refine zw.intro (fun t vs hh=> ∃ (j:Nat) (G':List X),j+t=b /\ vs=[.int .i64 (j:Int)] /\ i<j /\ zcg i b G G' /\ Rw E cs h0 hh x G' R) (b-(i+1)) ?_ ⟨i+1,G,by omega,rfl,by omega,zcg.refl _ _ _,ho⟩
 rintro Y t vs hh ⟨j,G1,hjt,rfl,hij,W1,o⟩ hY2
 have hlen:=W1.len
 simp -dsimp only [zh.l2,zh.k1,lssN,B.zd]
 refine B.zr (fun he=> ?_) (fun he=> ?_)
 ·rw [decide_eq_true_eq] at he
  have lj:j<G1.length:=by omega
  have lj1:j-1<G1.length:=by omega
  have sj:=sub1 (a:=j) (by omega) (by omega)
  simp -dsimp only [sj,o.idx lj,o.idx lj1,B.zd]
  refine o.ld S (List.getElem?_eq_getElem lj) ?_
  refine o.ld S (List.getElem?_eq_getElem lj1) ?_
  refine hc.call _ _ _ _ o.le ?_
  simp -dsimp only [V.zec,V.zf5,B.zd]
  refine B.zr (fun hd=> ?_) (fun hd=> ?_)
  ·simp -dsimp only [add1 (show s<4611686018427387904 by omega),B.zd]
   exact hY hh G1 W1 o
  ·simp -dsimp only [sj,o.idx lj,o.idx lj1,B.zd]
   refine o.ld S (List.getElem?_eq_getElem lj1) ?_
   refine o.ld S (List.getElem?_eq_getElem lj) ?_
   refine o.swap S lj lj1 fun h2 o2=> ?_
   simp -dsimp only [add1 (show j<4611686018427387904 by omega),B.zd]
   exact hY2 (b-(j+1)) _ _ (by omega) ⟨j+1,_,by omega,rfl,by omega,W1.trans (zds lj lj1 (by omega) (by omega) (by omega) (by omega)),o2⟩
 ·simp -dsimp only [add1 (show s<4611686018427387904 by omega),B.zd]
  exact hY hh G1 W1 o
theorem pis_k6 (S:zc0 E cs v) (W:Weak (zd9 c)) (hc:zdm C0 v c fL h0) (ho:Rw E cs h0 h x G R) (hl:G.length <= 100000000) (hai:a<i) (hi:i<b) (hb:b <= G.length) (hs:s <= 5) (hp:Pre c a b G) (h1:But1 c a i (i-1) G)
  (hY: ∀ h' G',zcg a b G G'->Srt c a i G'->Rw E cs h0 h' x G' R->Y1 [.int .i64 (i:Int),.int .i64 ((s+1:Nat):Int)] h'):
  zh.k6 C E C0 fL Q Y1 x (.int .i64 (a:Int)) (.int .i64 (b:Int)) f (.int .i64 (i:Int)) (.int .i64 (s:Int)) h:=by
 have fin: ∀ {hh G1},Rw E cs h0 hh x G1 R->zcg a b G G1->Srt c a i G1->zh.k3 C E C0 fL Q Y1 x (.int .i64 (a:Int)) (.int .i64 (b:Int)) f (.int .i64 (i:Int)) (.int .i64 (s:Int)) hh:=fun {hh G1} o W1 s1=>by
  have l1:=W1.len
  refine pis_k3 S hc o (by omega) (by omega) hi (by omega) hs fun h2 G2 W2 o2=>hY h2 G2 (W1.trans (W2.mono (by omega) (Nat.le_refl _))) (fun p q h1 h2 h3 h4 h5=> ?_) o2
  have l2:=W2.len
  rw [W2.same (k:=p) (.inl (by omega)) h4 (by omega),W2.same (k:=q) (.inl (by omega)) h5 (by omega)]
  exact s1 p q h1 h2 h3 _ _
 have hge:V.bin .geq (.int .i64 ((i-a:Nat):Int)) (.int .i64 2)=some (.bool (decide (2 <= i-a))):=geqN (b:=2)
 simp -dsimp only [zh.k6,zfq (show a <= i by omega) (by omega),hge,sub1 (show 1 <= i by omega) (by omega),B.zd]
 refine B.zr (fun hd=> ?_) (fun hd=> ?_)
 ·simp -dsimp only [sub1 (show 1 <= i by omega) (show i<4611686018427387904 by omega),B.zd]
  refine zw.intro (fun t vs hh=> ∃ (G':List X),vs=[.int .i64 (t:Int)] /\ a <= t /\ t<i /\ But1 c a i t G' /\ zcg a b G G' /\ Rw E cs h0 hh x G' R) (i-1) ?_ ⟨G,rfl,by omega,by omega,h1,zcg.refl _ _ _,ho⟩
  rintro Y j vs hh ⟨G1,rfl,haj,hji,b1,W1,o⟩ hY2
  have hlen:=W1.len
  have lj:j<G1.length:=by omega
  have hg1:V.bin .geq (.int .i64 (j:Int)) (.int .i64 1)=some (.bool (decide (1 <= j))):=geqN (b:=1)
  simp -dsimp only [zh.l5,zh.k4,hg1,B.zd]
  refine B.zr (fun he=> ?_) (fun he=> ?_)
  ·rw [decide_eq_true_eq] at he
   have lj1:j-1<G1.length:=by omega
   have sj:=sub1 (a:=j) (by omega) (by omega)
   simp -dsimp only [sj,o.idx lj,o.idx lj1,B.zd]
   refine o.ld S (List.getElem?_eq_getElem lj) ?_
   refine o.ld S (List.getElem?_eq_getElem lj1) ?_
   refine hc.call _ _ _ _ o.le ?_
   simp -dsimp only [V.zec,V.zf5,B.zd]
   refine B.zr (fun hd=> ?_) (fun hd=> ?_)
   ·exact fin o W1 (b1.done W lj (.inr fun _=>by simpa using hd))
   ·have hlt:c G1[j] G1[j-1]<0:=by simpa using hd
    have haj2:a<j:=by
     rcases Nat.lt_or_ge a j with k|k
     ·exact k
     ·have:j=a:=by omega
      subst this
      exact absurd hlt ((hp.within W1) (by omega) j (Nat.le_refl _) (by omega) _ _)
    simp -dsimp only [sj,o.idx lj,o.idx lj1,B.zd]
    refine o.ld S (List.getElem?_eq_getElem lj1) ?_
    refine o.ld S (List.getElem?_eq_getElem lj) ?_
    refine o.swap S lj lj1 fun h2 o2=> ?_
    exact hY2 (j-1) _ _ (by omega) ⟨_,rfl,by omega,by omega,b1.step W haj2 lj lj1 hlt,W1.trans (zds lj lj1 (by omega) (by omega) (by omega) (by omega)),o2⟩
  ·rw [decide_eq_false_iff_not] at he
   exact fin o W1 (b1.done W lj (.inl (by omega)))
 ·rw [decide_eq_false_iff_not] at hd
  exact fin ho (zcg.refl _ _ _) fun p q _ _ _ _ _=>by omega
theorem zft (S:zc0 E cs v) (W:Weak (zd9 c)) (hc:zdm C0 v c fL h0) (ho:Rw E cs h0 h x G R) (hl:G.length <= 100000000) (hab:a<b) (hb:b <= G.length) (hp:Pre c a b G)
  (hq: ∀ h' G' t,zcg a b G G'->(t=true->Srt c a b G')->Rw E cs h0 h' x G' R->Q (.bool t) h'):
  zh.cps C E C0 fL x (.int .i64 (a:Int)) (.int .i64 (b:Int)) f h Q:=by
 simp -dsimp only [zh.cps,add1 (show a<4611686018427387904 by omega),B.zd]
 refine zw.intro (fun t vs hh=> ∃ (s i:Nat) (G':List X),s+t=5 /\ vs=[.int .i64 (i:Int),.int .i64 (s:Int)] /\ a<i /\ i <= b /\ Srt c a i G' /\ zcg a b G G' /\ Rw E cs h0 hh x G' R) 5 ?_ ⟨0,a+1,G,rfl,rfl,by omega,by omega,fun p q _ _ _ _ _=>by omega,zcg.refl _ _ _,ho⟩
 rintro Y t vs hh ⟨s,i,G1,hst,rfl,hai,hib,s1,W1,o⟩ hY
 have hl1:=W1.len
 have h5:V.bin .lss (.int .i64 (s:Int)) (.int .i64 5)=some (.bool (decide (s<5))):=lssN (b:=5)
 simp -dsimp only [zh.l12,zh.k11,h5,B.zd]
 refine B.zr (fun hd=> ?_) (fun hd=>hq hh G1 false W1 (fun h=>by cases h) o)
 rw [decide_eq_true_eq] at hd
 refine zw.intro (fun t vs hh=> ∃ (i:Nat),i+t=b /\ vs=[.int .i64 (i:Int)] /\ a<i /\ Srt c a i G1 /\ Rw E cs h0 hh x G1 R) (b-i) ?_ ⟨i,by omega,rfl,hai,s1,o⟩
 rintro Z t vs hh ⟨i,hit,rfl,hai,s2,o2⟩ hZ
 simp -dsimp only [zh.l10,zh.k9,lssN,B.zd]
 by_cases hd2:i<b
 ·have li:i<G1.length:=by omega
  have li1:i-1<G1.length:=by omega
  have si:=sub1 (a:=i) (by omega) (by omega)
  simp -dsimp only [hd2,decide_true,B.gd_t,B.zce,si,o2.idx li,o2.idx li1,B.zd]
  refine o2.ld S (List.getElem?_eq_getElem li) ?_
  refine o2.ld S (List.getElem?_eq_getElem li1) ?_
  refine hc.call _ _ _ _ o2.le ?_
  simp -dsimp only [hd2,decide_true,B.gd_t,B.zce,V.zec,V.zf5,B.zev,B.zd]
  refine B.zr (fun he=> ?_) (fun he=> ?_)
  ·have hnl: ¬ c G1[i] G1[i-1]<0:=by simpa using he
   simp -dsimp only [add1 (show i<4611686018427387904 by omega),B.zd]
   refine hZ (t-1) _ _ (by omega) ⟨i+1,by omega,rfl,by omega,?_,o2⟩
   exact But1.done W (j:=i) (fun p q h1 h2 h3 h4 h5 h6=>s2 p q h1 h2 (by omega) h5 h6) li (.inr fun _=>hnl)
  ·have hlt:c G1[i] G1[i-1]<0:=by simpa using he
   have hne:V.bin .eql (.int .i64 (i:Int)) (.int .i64 (b:Int))=some (.bool false):=by rw [V.zfy];simp;omega
   simp -dsimp only [hne,B.zd,B.cond_false,zh.k8,zh.k7,zfq (show a <= b by omega) (show b<4611686018427387904 by omega)]
   rw [show V.bin .lss (.int .i64 ((b-a:Nat):Int)) (.int .i64 50)=some (.bool (decide (b-a<50))) from lssN (b:=50)]
   simp -dsimp only [B.zd]
   refine B.zr (fun hf=>hq hh G1 false W1 (fun h=>by cases h) o2) (fun hf=> ?_)
   simp -dsimp only [zh.k7,si,o2.idx li,o2.idx li1,B.zd]
   refine o2.ld S (List.getElem?_eq_getElem li1) ?_
   refine o2.ld S (List.getElem?_eq_getElem li) ?_
   refine o2.swap S li li1 fun h3 o3=> ?_
   have hsl:=zg4 li li1
   have w3:zcg a b G1 (swp G1 i (i-1) li li1):=zds li li1 (by omega) (by omega) (by omega) (by omega)
   have W3:=W1.trans w3
   refine pis_k6 S W hc o3 (by omega) hai hd2 (by omega) (by omega) (hp.within W3) (fun p q h1 h2 h3 h4 h5 h6=> ?_) fun h4 G4 W4 s4 o4=>hY (5-(s+1)) _ _ (by omega) ⟨s+1,i,G4,by omega,rfl,hai,by omega,s4,W3.trans W4,o4⟩
   rw [zfp li li1 h6 (by omega),if_neg h4,if_neg (by omega),zfp li li1 h5 (by omega),if_neg (by omega),if_neg (by omega)]
   exact s2 p q h1 h2 h3 _ _
 ·have e:i=b:=by omega
  subst e
  have heq:V.bin .eql (.int .i64 (i:Int)) (.int .i64 (i:Int))=some (.bool true):=by rw [V.zfy];simp
  simp -dsimp only [hd2,decide_false,B.gd_t,B.zdw,B.ze2,B.cond_false,heq,B.cond_true,B.zd]
  exact hq hh G1 true W1 (fun _=>s2) o2
end
variable {C C0:CSem} {fL:Nat} {N:zN}
section
variable {E:zz} {X:Type} {cs:X->List AVal} {v:X->AVal} {h0 h:za} {x f:AVal} {G:List X} {R:List (List AVal)} {Q:zQ} {a b:Nat}
theorem zhy {f1 f2:Nat} (hn:NextI C0 f1) (hp:PowI C0 f2) (S:zc0 E cs v) (ho:Rw E cs h0 h x G R) (hl:G.length <= 100000000) (hab:a <= b) (hb:b <= G.length)
  (hq: ∀ h' G',zcg a b G G'->Rw E cs h0 h' x G' R->Q (.tup []) h'):zbc.cps C E C0 fL f1 f2 x (.int .i64 (a:Int)) (.int .i64 (b:Int)) f h Q:=by
 obtain ⟨n,en⟩: ∃ n,n=b-a:=⟨_,rfl⟩
 have e1:=zfq hab (show b<4611686018427387904 by omega)
 rw [<- en] at e1
 have g8:V.bin .geq (.int .i64 (n:Int)) (.int .i64 8)=some (.bool (decide (8 <= n))):=geqN (b:=8)
 simp -dsimp only [zbc.cps,zbc.k8,e1,g8,B.zd]
 refine B.zr (fun hd=> ?_) (fun hd=>hq h G (zcg.refl _ _ _) ho)
 rw [decide_eq_true_eq] at hd
 simp -dsimp only [zbc.k7,toUN (show n<18446744073709551616 by omega),B.zd]
 intro id hid
 have o:=Owns.zpw ho hid [.int .u64 0]
 simp only [List.cons_append,List.nil_append] at o
 refine o.boxSt 1 (off:=0) rfl rfl (by simp) fun h1 o1 _=> ?_
 simp only [List.set_cons_succ,List.set_cons_zero] at o1
 refine hp n _ _ (by omega) (by omega) fun m hm0 hm=> ?_
 have m4:V.bin .quo (.int .i64 (n:Int)) (.int .i64 4)=some (.int .i64 ((n / 4:Nat):Int)):=quo4 (by omega)
 have m2:V.bin .mul (.int .i64 ((n / 4:Nat):Int)) (.int .i64 2)=some (.int .i64 ((n / 4*2:Nat):Int)):=mulN (a:=n / 4) (b:=2) (by omega)
 have m5:V.bin .add (.int .i64 (a:Int)) (.int .i64 ((n / 4*2:Nat):Int))=some (.int .i64 ((a+n / 4*2:Nat):Int)):=zh3 (by omega)
 simp -dsimp only [zbc.k6,m4,m2,m5,sub1 (show 1 <= a+n / 4*2 by omega) (by omega),B.zd]
 refine zw.intro (fun t vs hh=> ∃ (i:Nat) (G':List X) (z:Int),i+t=a+n / 4*2+2 /\ vs=[.int .i64 (i:Int)] /\ a <= i /\ zcg a b G G' /\ Owns h0 hh [.sl E.es x (G'.map cs) R,.box (.ptr id 0 0) [.int .u64 z]]) 3 ?_ ⟨a+n / 4*2-1,G,_,by omega,rfl,by omega,zcg.refl _ _ _,o1⟩
 rintro Y t vs hh ⟨i,G1,z,hit,rfl,hai,W1,o2⟩ hY
 have l1:=W1.len
 simp -dsimp only [zbc.l5,zbc.k4,m4,m2,m5,add1 (show a+n / 4*2<4611686018427387904 by omega),leqN,B.zd]
 refine B.zr (fun he=> ?_) (fun he=>hq hh G1 W1 (o2.sub (by simp)))
 rw [decide_eq_true_eq] at he
 have oo:=Owns.out (l1:=[.sl E.es x (G1.map cs) R]) (l2:=[.box (.ptr id 0 0) [.int .u64 z]]) o2
 simp -dsimp only [zbc.k3]
 refine hn _ _ _ _ _ oo.2 fun w z' h3 o3=> ?_
 have o4:=oo.1.join o3
 have s1:V.bin .sub (.int .u64 (m:Int)) (.int .u64 1)=some (.int .u64 ((m-1:Nat):Int)):=by
  rw [V.zgt,show (m:Int)-1=((m-1:Nat):Int) by omega,wrapU (by omega)]
 obtain ⟨ot,hot,ea⟩:=and_le (z:=w) (m:=m-1) (by omega)
 simp -dsimp only [s1,ea,toIN (show ot<4611686018427387904 by omega),B.zd,zbc.k2,geqN]
 have fin: ∀ k:Nat,k<n->zbc.k1 C E C0 fL f1 f2 Q Y x (.int .i64 (a:Int)) (.int .i64 (n:Int)) (.ptr id 0 0) (.int .u64 (m:Int)) (.int .i64 (i:Int)) (.int .i64 (k:Int)) h3:=fun k hk=>by
  have la:a+k<G1.length:=by omega
  have li:i<G1.length:=by omega
  have op:=Owns.perm o4 (List.Perm.swap _ _ [])
  have oq:=Owns.out (l1:=[.box (.ptr id 0 0) [.int .u64 z']]) (l2:=[.sl E.es x (G1.map cs) R]) op
  have orw:Rw E cs _ h3 x G1 R:=oq.2
  simp -dsimp only [zbc.k1,zh3 (show a+k<4611686018427387904 by omega),orw.idx la,orw.idx li,B.zd]
  refine orw.ld S (List.getElem?_eq_getElem la) ?_
  refine orw.ld S (List.getElem?_eq_getElem li) ?_
  refine orw.swap S li la fun h5 o5=> ?_
  simp -dsimp only [add1 (show i<4611686018427387904 by omega),B.zd]
  have o6:=oq.1.join o5
  exact hY (a+n / 4*2+2-(i+1)) _ _ (by omega) ⟨i+1,_,z',by omega,rfl,by omega,W1.trans (zds li la (by omega) (by omega) (by omega) (by omega)),o6.perm (List.Perm.swap _ _ [])⟩
 refine B.zr (fun hf=> ?_) (fun hf=> ?_)
 ·rw [decide_eq_true_eq] at hf
  simp -dsimp only [zfq hf (show ot<4611686018427387904 by omega),B.zd]
  exact fin (ot-n) (by omega)
 ·rw [decide_eq_false_iff_not] at hf
  exact fin ot (by omega)
end
section
variable {X:Type} {c:X->X->Int} {a b m A0 Z0:Nat} {G G':List X}
end
structure PdqI (C:CSem) (E:zz) (C0:CSem) (fL:Nat) (f1 f2 f3 f4 f5 f6 f7 f8 f9 g1 g2 g3 g4 g5 g6:Nat):Prop where
 eq:I5 (zba.cps C E C0 fL) C f1
 part:I5 (zp.cps C E C0 fL) C f2
 pdq:I5 (zbm.cps C E C0 fL f1 f2 f3 f4 f5 f6 f7 f8 f9) C f3
 pis:I4 (zh.cps C E C0 fL) C f4
 rev:I4 (zd0.cps C E C0 fL) C f5
 piv:I4 (zbo.cps C E C0 fL g2 g3) C f6
 brk:I4 (zbc.cps C E C0 fL g5 g6) C f7
 heap:I4 (zdf.cps C E C0 fL g4) C f8
 ins:I4 (zc6.cps C E C0 fL) C f9
 ord:O2I C E C0 fL g1
 med:MedI C E C0 fL g1 g2
 adj:AdjI C E C0 fL g2 g3
 sift:SiftI C E C0 fL g4
 next:NextI C0 g5
 pow:PowI C0 g6
section
variable {E:zz} {X:Type} {cs:X->List AVal} {v:X->AVal} {h0 h:za} {x f:AVal} {G:List X} {R:List (List AVal)} {c:X->X->Int} {Q:zQ} {Y:zL} {f1 f2 f3 f4 f5 f6 f7 f8 f9 g1 g2 g3 g4 g5 g6:Nat}
theorem pdq_k1 (J:PdqI C E C0 fL f1 f2 f3 f4 f5 f6 f7 f8 f9 g1 g2 g3 g4 g5 g6) (S:zc0 E cs v) (W:Weak (zd9 c)) (hc:zdm C0 v c fL h0) {A0 Z0 a b:Nat} {G0:List X} {lim:Int} {w1 w2:Bool} {pv:Nat} (p:PS E cs h0 x R c A0 Z0 G0 a b G h) (hl:G.length <= 100000000) (hBl:Z0 <= G.length)
  (h1:a <= pv) (h2:pv<b)
  (rcs: ∀ (a' b':Nat) (lim:Int) (h:za) (G:List X) (Q:zQ),b'-a'<b-a->a' <= b'->b' <= G.length->G.length <= 100000000->Pre c a' b' G->Rw E cs h0 h x G R->(∀ h' G',zcg a' b' G G'->Srt c a' b' G'->Rw E cs h0 h' x G' R->Q (.tup []) h') ->
   C f3 [x,.int .i64 (a':Int),.int .i64 (b':Int),.int .i64 lim,f] h Q)
  (hY:Go1 E cs h0 x R c A0 Z0 G0 (b-a) Y):
  zbm.k1 C E C0 fL f1 f2 f3 f4 f5 f6 f7 f8 f9 Q Y x (.int .i64 (a:Int)) (.int .i64 (b:Int)) (.int .i64 lim) f (.bool w1) (.bool w2) (.int .i64 ((b-a:Nat):Int)) (.int .i64 (pv:Int)) h:=by
 have hA:=p.hA;have hB:=p.hB;have o:=p.o
 have lp:pv<G.length:=by omega
 have part:zbm.k1 C E C0 fL f1 f2 f3 f4 f5 f6 f7 f8 f9 Q Y x (.int .i64 (a:Int)) (.int .i64 (b:Int)) (.int .i64 lim) f (.bool w1) (.bool w2) (.int .i64 ((b-a:Nat):Int)) (.int .i64 (pv:Int)) h =
  zbm.k1 C E C0 fL f1 f2 f3 f4 f5 f6 f7 f8 f9 Q Y x (.int .i64 (a:Int)) (.int .i64 (b:Int)) (.int .i64 lim) f (.bool w1) (.bool w2) (.int .i64 ((b-a:Nat):Int)) (.int .i64 (pv:Int)) h:=rfl
 clear part
 have part:C f2 [x,.int .i64 (a:Int),.int .i64 (b:Int),.int .i64 (pv:Int),f] h (fun v111 h=>
  B.pv (V.ext 0 v111) fun v112=>
  B.pv (V.ext 1 v111) fun v113=>
  B.pv (V.bin .sub v112 (.int .i64 (a:Int))) fun v117=>
  B.pv (V.bin .sub (.int .i64 (b:Int)) v112) fun v120=>
  B.pv (V.bin .quo (.int .i64 ((b-a:Nat):Int)) (.int .i64 8)) fun v122=>
  B.pv (V.bin .lss v117 v120) fun v125=>
  B.cond v125
  (B.pv (V.bin .geq v117 v122) fun v128=>
  B.call C f3 [x,.int .i64 (a:Int),v112,.int .i64 lim,f] h fun v134 h=>
  B.pv (V.bin .add v112 (.int .i64 1)) fun v136=>
  Y [v136,.int .i64 (b:Int),.int .i64 lim,v128,v113] h)
  (B.pv (V.bin .geq v120 v122) fun v139=>
  B.pv (V.bin .add v112 (.int .i64 1)) fun v142=>
  B.call C f3 [x,v142,.int .i64 (b:Int),.int .i64 lim,f] h fun v146 h=>
  Y [.int .i64 (a:Int),v112,.int .i64 lim,v139,v113] h)):=by
  refine J.part _ _ _ _ _ _ _ (zjt S hc o (by omega) h1 h2 (by omega) fun h3 m G3 t pt W3 o3=>zbu ?_)
  have p3:=p.turn W3 o3
  have l3:=W3.len
  have m1:=pt.ge;have m2:=pt.lt
  have q8:V.bin .quo (.int .i64 ((b-a:Nat):Int)) (.int .i64 8)=some (.int .i64 (((b-a) / 8:Nat):Int)):=by
   rw [V.zkr _ _ _ (by omega),show ((b-a:Nat):Int).tdiv 8=(((b-a) / 8:Nat):Int) from rfl,wrap_i64 (by omega) (by omega)]
  simp -dsimp only [V.zfw,List.getElem?_cons_zero,List.getElem?_cons_succ,B.zd,zfq m1 (show m<4611686018427387904 by omega),zfq (show m <= b by omega) (show b<4611686018427387904 by omega),q8,lssN,geqN,add1 (show m<4611686018427387904 by omega)]
  refine B.zr (fun hd=> ?_) (fun hd=> ?_)
  ·simp -dsimp only [geqN,add1 (show m<4611686018427387904 by omega),B.zd]
   refine rcs a m lim _ G3 _ (by omega) m1 (by omega) (by omega) (p3.pre.sub (by omega)) o3 fun h4 G4 W4 s4 o4=> ?_
   have pt4:=pt.left W W4
   have cut4:=(p3.cut.within (W4.mono (Nat.le_refl _) (by omega)) hA hB).left W pt4 s4
   simp -dsimp only [add1 (show m<4611686018427387904 by omega),B.zd]
   exact hY (m+1) b lim _ _ G4 h4 (by omega) ⟨by omega,by omega,hB,p3.W.trans (W4.mono hA (by omega)),cut4,cut4.pre (by omega) hB,o4⟩
  ·have c3:Pre c (m+1) b G3:=fun h0 i k1 k2 k3 k4=>pt.pair W (p:=m+1-1) (q:=i) (by omega) (by omega) k2 (by omega) (by omega) k4 k3
   simp -dsimp only [geqN,add1 (show m<4611686018427387904 by omega),B.zd]
   refine rcs (m+1) b lim _ G3 _ (by omega) (by omega) (by omega) (by omega) c3 o3 fun h4 G4 W4 s4 o4=> ?_
   have pt4:=pt.right W W4
   have W4':zcg a b G3 G4:=W4.mono (by omega) (Nat.le_refl _)
   have cut4:=(p3.cut.within W4' hA hB).right W pt4 s4
   exact hY a m lim _ _ G4 h4 (by omega) ⟨hA,m1,by omega,p3.W.trans (W4.mono (by omega) hB),cut4,(p3.pre.within W4').sub (by omega),o4⟩
 simp -dsimp only [zbm.k1]
 have g0:V.bin .gtr (.int .i64 (a:Int)) (.int .i64 0)=some (.bool (decide (0<a))):=gtrN (b:=0)
 simp -dsimp only [g0,B.zd]
 by_cases ha:0<a
 ·have la:a-1<G.length:=by omega
  simp -dsimp only [ha,decide_true,B.gd_t,B.zce,sub1 (show 1 <= a by omega) (show a<4611686018427387904 by omega),o.idx la,o.idx lp,B.zd]
  refine o.ld S (List.getElem?_eq_getElem la) ?_
  refine o.ld S (List.getElem?_eq_getElem lp) ?_
  refine hc.call _ _ _ _ o.le ?_
  simp -dsimp only [ha,decide_true,B.gd_t,B.zce,V.zec,V.zf5,B.zev,B.zd]
  refine B.zr (fun he=> ?_) (fun he=>part)
  have hd: ¬ c G[a-1] G[pv]<0:=by simpa using he
  refine J.eq _ _ _ _ _ _ _ (zg7 S hc o (by omega) h1 h2 (by omega) fun h3 i j G3 pe hji W3 e3 o3=>zbu ?_)
  have p3:=p.turn W3 o3
  have l3:=W3.len
  have k1:=pe.hi;have k2:=pe.hij;have k3:=pe.hj
  have cut4:=p3.cut.equal W pe hji ha p3.pre (by omega) fun q1 q2=>by
   rw [e3 q2 lp,W3.same (.inl (by omega)) q1 la];exact hd
  exact hY i b lim _ _ G3 h3 (by omega) ⟨by omega,by omega,hB,p3.W,cut4,cut4.pre (by omega) hB,o3⟩
 ·simp -dsimp only [ha,decide_false,B.gd_t,B.zdw,B.ze2,B.cond_false]
  exact part
theorem pdq_spec (J:PdqI C E C0 fL f1 f2 f3 f4 f5 f6 f7 f8 f9 g1 g2 g3 g4 g5 g6) (S:zc0 E cs v) (W:Weak (zd9 c)) (hc:zdm C0 v c fL h0): ∀ (n:Nat) (A0 Z0:Nat) (lim:Int) (h:za) (G:List X) (Q:zQ),Z0-A0=n->A0 <= Z0->Z0 <= G.length->G.length <= 100000000->Pre c A0 Z0 G->Rw E cs h0 h x G R ->
  (∀ h' G',zcg A0 Z0 G G'->Srt c A0 Z0 G'->Rw E cs h0 h' x G' R->Q (.tup []) h')->zbm.cps C E C0 fL f1 f2 f3 f4 f5 f6 f7 f8 f9 x (.int .i64 (A0:Int)) (.int .i64 (Z0:Int)) (.int .i64 lim) f h Q:=by
 intro n
 induction n using Nat.strongRecOn with
 | ind n ih=>
 intro A0 Z0 lim h G0 Q hn hAB hBl hl hpre ho hq
 simp -dsimp only [zbm.cps]
 refine zw.intro (fun t vs hh=> ∃ (a b:Nat) (lim:Int) (w1 w2:Bool) (G:List X),t=b-a /\ vs=[.int .i64 (a:Int),.int .i64 (b:Int),.int .i64 lim,.bool w1,.bool w2] /\ PS E cs h0 x R c A0 Z0 G0 a b G hh) (Z0-A0) ?_
  ⟨A0,Z0,lim,true,true,G0,rfl,rfl,⟨Nat.le_refl _,hAB,Nat.le_refl _,zcg.refl _ _ _,fun p q _ _ _ k=>by omega,hpre,ho⟩⟩
 rintro Y t vs hh ⟨a,b,lim,w1,w2,G,rfl,rfl,p⟩ hY'
 have hY:Go1 E cs h0 x R c A0 Z0 G0 (b-a) Y:=fun a' b' lim' w1' w2' G' h' hlt p'=>hY' (b'-a') _ _ hlt ⟨a',b',lim',w1',w2',G',rfl,rfl,p'⟩
 clear hY'
 have hA:=p.hA;have hab:=p.hab;have hB:=p.hB
 have lG:=p.W.len
 have rcs: ∀ (a' b':Nat) (lim:Int) (h:za) (G:List X) (Q:zQ),b'-a'<b-a->a' <= b'->b' <= G.length->G.length <= 100000000->Pre c a' b' G->Rw E cs h0 h x G R->(∀ h' G',zcg a' b' G G'->Srt c a' b' G'->Rw E cs h0 h' x G' R->Q (.tup []) h') ->
   C f3 [x,.int .i64 (a':Int),.int .i64 (b':Int),.int .i64 lim,f] h Q:=fun a' b' lim h G Q k1 k2 k3 k4 k5 k6 k7=>
  J.pdq _ _ _ _ _ _ _ (ih (b'-a') (by omega) a' b' lim h G _ rfl k2 k3 k4 k5 k6 fun h' G' w s o=>zbu (k7 h' G' w s o))
 have fin: ∀ {hh G G2},PS E cs h0 x R c A0 Z0 G0 a b G hh-> ∀ h',zcg a b G G2->Srt c a b G2->Rw E cs h0 h' x G2 R->Q (.tup []) h':=fun p h' w s o=>by
  have p2:=p.turn w o
  exact hq h' _ p2.W (p2.cut.join s) o
 have e12:V.bin .leq (.int .i64 ((b-a:Nat):Int)) (.int .i64 12)=some (.bool (decide (b-a <= 12))):=leqN (b:=12)
 simp -dsimp only [zbm.l8,zfq hab (show b<4611686018427387904 by omega),B.zd,zbm.k7,e12]
 refine B.zr (fun hd=> ?_) (fun hd=> ?_)
 ·exact J.ins _ _ _ _ _ _ (zkm S W hc p.o (by omega) hab (by omega) fun h' G' w s o=>zbu (fin p h' w s o))
 rw [decide_eq_false_iff_not] at hd
 simp -dsimp only [zbm.k6,V.zfy,B.zd]
 refine B.zr (fun _=> ?_) (fun _=> ?_)
 ·exact J.heap _ _ _ _ _ _ (zkn J.sift S W hc p.o (by omega) (by omega) (by omega) fun h' G' w s o=>zbu (fin p h' w s o))
 have k4: ∀ {hh G} (lim:Int),PS E cs h0 x R c A0 Z0 G0 a b G hh->zbm.k4 C E C0 fL f1 f2 f3 f4 f5 f6 f7 f8 f9 Q Y x (.int .i64 (a:Int)) (.int .i64 (b:Int)) (.int .i64 lim) f (.bool w1) (.bool w2) (.int .i64 ((b-a:Nat):Int)) hh:=fun {hh G} lim p=>by
  have lG:=p.W.len
  simp -dsimp only [zbm.k4]
  refine J.piv _ _ _ _ _ _ (zil J.ord J.med J.adj S (Owns.slAt p.o 0 rfl) p.o.le hc (by omega) (by omega) (by omega) fun m hint h2 m1 m2 hle=>zbu ?_)
  have p2:PS E cs h0 x R c A0 Z0 G0 a b G h2:=⟨p.hA,p.hab,p.hB,p.W,p.cut,p.pre,Owns.grow p.o hle⟩
  simp -dsimp only [V.zfw,List.getElem?_cons_zero,List.getElem?_cons_succ,B.zd,zbm.k3,V.zfy]
  have k2: ∀ {hh G} (pv:Nat) (hint:Int),a <= pv->pv<b->PS E cs h0 x R c A0 Z0 G0 a b G hh->zbm.k2 C E C0 fL f1 f2 f3 f4 f5 f6 f7 f8 f9 Q Y x (.int .i64 (a:Int)) (.int .i64 (b:Int)) (.int .i64 lim) f (.bool w1) (.bool w2) (.int .i64 ((b-a:Nat):Int)) (.int .i64 (pv:Int)) (.int .i64 hint) hh:=fun {hh G} pv hint q1 q2 p=>by
   have lG:=p.W.len
   have go:=pdq_k1 (Q:=Q) (lim:=lim) (w1:=w1) (w2:=w2) J S W hc p (by omega) (by omega) q1 q2 rcs hY
   simp -dsimp only [zbm.k2]
   have two:B.cond (.bool true) (B.call C f4 [x,.int .i64 (a:Int),.int .i64 (b:Int),f] hh fun v80 h=>
     B.cond v80 (Q (.tup []) h) (zbm.k1 C E C0 fL f1 f2 f3 f4 f5 f6 f7 f8 f9 Q Y x (.int .i64 (a:Int)) (.int .i64 (b:Int)) (.int .i64 lim) f (.bool w1) (.bool w2) (.int .i64 ((b-a:Nat):Int)) (.int .i64 (pv:Int)) h))
     (zbm.k1 C E C0 fL f1 f2 f3 f4 f5 f6 f7 f8 f9 Q Y x (.int .i64 (a:Int)) (.int .i64 (b:Int)) (.int .i64 lim) f (.bool w1) (.bool w2) (.int .i64 ((b-a:Nat):Int)) (.int .i64 (pv:Int)) hh):=by
    rw [B.cond_true]
    refine J.pis _ _ _ _ _ _ (zft S W hc p.o (by omega) (by omega) (by omega) p.pre fun h' G' t w s o=>zbu ?_)
    have p':=p.turn w o
    have lG':=p'.W.len
    refine B.zr (fun ht=>fin p h' w (s ht) o) (fun _=> ?_)
    exact pdq_k1 (Q:=Q) (lim:=lim) (w1:=w1) (w2:=w2) J S W hc p' (by omega) (by omega) q1 q2 rcs hY
   cases w1<;>cases w2
   ·simp -dsimp only [B.gd_t,B.zdw,B.ze2,B.cond_false];exact go
   ·simp -dsimp only [B.gd_t,B.zdw,B.ze2,B.cond_false];exact go
   ·simp -dsimp only [B.gd_t,B.zce,B.zdw,B.zev,B.ze2,B.cond_false];exact go
   ·by_cases hh1:hint=1
    ·simp -dsimp only [B.gd_t,B.zce,V.zfy,hh1,decide_true,B.zd,B.zev];exact two
    ·simp -dsimp only [B.gd_t,B.zce,V.zfy,hh1,decide_false,B.zd,B.zev,B.cond_false];exact go
  refine B.zr (fun _=> ?_) (fun _=>k2 m hint m1 m2 p2)
  refine J.rev _ _ _ _ _ _ (zh7 S (by omega) p2.o (by omega) (by omega) fun h3 G3 w3 o3=>zbu ?_)
  simp -dsimp only [sub1 (show 1 <= b by omega) (show b<4611686018427387904 by omega),zfq m1 (show m<4611686018427387904 by omega),zfq (show m-a <= b-1 by omega) (show b-1<4611686018427387904 by omega),B.zd]
  exact k2 (b-1-(m-a)) 1 (by omega) (by omega) (p2.turn w3 o3)
 simp -dsimp only [zbm.k5,V.zf5,B.zd]
 refine B.zr (fun _=> ?_) (fun _=>k4 lim p)
 refine J.brk _ _ _ _ _ _ (zhy J.next J.pow S p.o (by omega) hab (by omega) fun h' G' w o=>zbu ?_)
 simp -dsimp only [V.zgt,B.zd]
 exact k4 _ (p.turn w o)
end
end Go.Ab.Ord
