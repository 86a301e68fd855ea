/- What is proved: a part of the way to the statement: AbPm. No conditions. -/
import Derived.Test.YtlcijlhcilgknaaQ1
import Derived.Maps.RangeRun
import Derived.OrdersIn
import Derived.Scope
import Derived.KernelRfl
set_option linter.unusedVariables false
set_option linter.unusedSimpArgs false
namespace Go.Ab
open Go.RowKit (Below)
section
variable {P:Program} {w0:World} {ρ:Locs} {h H:za} {w:World} {s:zcf} {a:Act} {K:zQ} {o:Oper} {Q:Exit->Act->World->Prop}
theorem zeroCells_eq {z:Value} {n size:Nat} (hz:z.cells.size=size) (h0:0<size):(Builtin.zeroCells z.cells n).toList=(List.replicate n z.cells.toList).flatten:=by
 have:=zon (z:=z) (n:=n) hz h0
 unfold Builtin.zeroCells
 rw [hz] at this ⊢
 rw [this]
theorem op_clear {c:Call} {t e:TypeId} {x:Operand} (ho:o.op= .call c) (hc:c.callee= .builtin .clear) (ha:c.argTypes.toList=[t]) (hargs:c.args.toList=[x]) (ht:P.underlying t=some (.slice e)) (hpos:0<P.cellsOf e)
  (hR:R w0 ρ H w) (hle:h.le H) (hs:SRel ρ s a) (hop:A.clr h (zeroOf P e) (evS s x) K):OpOk P w0 ρ h H K o a w Q:=by
 have hx:=zc1 hs x
 have hat:=zi0 ha
 have main: ∀ r w',(Builtin.clear_ c.argTypes o.type #[a.eval x]).run P w= .ok r w'->(execOp a.eval o).run P w= .ok (.value r) w':=fun r w' hh=>by
  obtain ⟨_,hex⟩:=zf2 (P:=P) (w:=w) (a:=a) ho hc hargs;rw [hex];simp [builtin,hh]
 have nothing: ∀ (base:Option Addr) (n cp:Nat),(base=none \/ n=0)->a.eval x= .slice base n cp->K (.tup []) h->OpOk P w0 ρ h H K o a w Q:=fun base n cp hb ev hK=>by
  refine zdr hR hle (x:= .tup []) (v:= .tuple #[]) (main _ _ ?_) ⟨[],rfl,rfl⟩ hK
  rcases hb with rfl|rfl
  ·simp [Builtin.clear_,hat,run_underlying ht,ev]
  ·cases base<;>simp [Builtin.clear_,hat,run_underlying ht,ev]
 unfold A.clr at hop
 split at hop
 ·exact hop.elim
 ·rename_i z hz
  obtain ⟨it,zv,hit,hzv,hv,hone,hlen,hsz,_,_⟩:=zf3 (ρ:=ρ) hz
  have hce:=zeb hit
  split at hop
  ·rename_i he;rw [he] at hx;exact nothing none 0 0 (.inl rfl) hx hop
  ·rename_i he;rw [he] at hx;obtain ⟨ad,hx⟩:=hx;exact nothing (some ad) 0 0 (.inr rfl) hx hop
  ·rename_i id g off len es cp he
   rw [he] at hx
   split at hop
   ·rename_i h0
    subst h0
    obtain ⟨ad,c,ev⟩:=zms hx
    exact nothing (some ad) 0 c (.inr rfl) ev hop
   ·rename_i h0
    obtain ⟨id',g',off',b,hi',cs',e1,e2,e3,e4,e5,e6,e7⟩:=zop hop
    cases e1
    simp only [V.putN] at e6
    split at e6<;>(try (cases e6;done))
    rename_i hlt
    cases e6
    have hsp:zjk b.cells (List.replicate len z).flatten off=b.cells.take off++(List.replicate len z).flatten++b.cells.drop (off+len*es):=by unfold zjk;rw [hlt.1]
    rw [<- hsp] at e7
    obtain ⟨L,hL,hlo,⟨cap,ev,_⟩|⟨rfl,_⟩⟩:=hx
    ·obtain ⟨k1,k2⟩:=zkd (P:=P) hR (hle id b e2) e4 (zep e3) hL hlo (xs:=(List.replicate len z).flatten) (vs:=(List.replicate len zv.cells.toList).flatten) (by omega) (zdz.rep hv len) (fun u hu=>by
      simp only [List.mem_flatten,List.mem_replicate] at hu
      obtain ⟨l,⟨_,rfl⟩,hu⟩:=hu
      exact hone u hu)
     refine zel (v:= .tuple #[]) (main _ _ ?_) ⟨⟨.tup [],ρ,_,_,Locs.le_refl ρ,⟨[],rfl,rfl⟩,e7,zhj _ hle,Fr.upd e2,k2⟩⟩
     have hzr:(zeroValue e).run P w= .ok zv w:=by simp [zeroValue,typeInfo,hit,hzv]
     cases len with
     | zero=>exact absurd rfl h0
     | succ n=>simp [Builtin.clear_,hat,run_underlying ht,ev,hzr,zeroCells_eq hsz (by omega),k1]
    ·exact absurd rfl h0
  ·exact hop.elim
theorem getMap {id:Nat} {b:Blk} {es:List (AVal×AVal×Nat)} {c:Nat} (hR:R w0 ρ H w) (hb:H id=some b) (ho:b.obj=some (.map es c)) {L:Loc} (hL:ρ id 0=some L):
  ∃ ms,w.heap[L.blk]? =some (.map ms c) /\ zeo ρ es ms.toList:=by
 obtain ⟨_,L0,ob,q1,q2,q3,q4,q5,q6⟩:=(hR.blk id b hb).obj _ ho
 rw [hL] at q1
 cases q1
 obtain ⟨ms,rfl,hm⟩:=q6
 exact ⟨ms,q5,hm⟩
theorem zld {x:AVal} {es:List (AVal×AVal×Nat)} {c:Nat} (hm:A.zlu h x=some (es,c)): ∃ id b,x= .mp id /\ h id=some b /\ b.obj=some (.map es c):=by
 unfold A.zlu at hm
 split at hm<;>(try (cases hm;done))
 rename_i id
 split at hm<;>(try (cases hm;done))
 rename_i b hb
 split at hm<;>(try (cases hm;done))
 rename_i es' c' ho
 cases hm
 exact ⟨id,b,rfl,hb,ho⟩
theorem bytes_ext {x y:ByteArray} (e:x.data.toList=y.data.toList):x=y:=by
 cases x;cases y
 simp only [ByteArray.mk.injEq]
 exact Array.ext' e
def KD.fits (kd:KD) (d:TypeDesc):Prop:=match kd with | .i=> ∃ k,d= .int k | .s=>d= .string | .b=>d= .bool
theorem zij {t:TypeId} {kd:KD} (hk:zhr P t=some kd): ∃ d,P.underlying t=some d /\ kd.fits d:=by
 unfold zhr at hk
 split at hk<;>(try (cases hk;done))<;>cases hk
 ·rename_i k e;exact ⟨_,e,k,rfl⟩
 ·rename_i e;exact ⟨_,e,rfl⟩
 ·rename_i e;exact ⟨_,e,rfl⟩
theorem sameK_run {kd:KD} {d:TypeDesc} (hd:kd.fits d) {x y:AVal} {u v:Value} (hx:VRel ρ x u) (hy:VRel ρ y v) {r:Bool} (e:V.sameK kd x y=some r):
  Instr.sameNow d u v=some r /\ (r=true->u=v /\ Instr.sameBits 10000 v u=true):=by
 unfold V.sameK at e
 split at e<;>(try (cases e;done))
 ·split at e<;>(try (cases e;done))
  rename_i hkj
  subst hkj
  cases e
  obtain ⟨k,rfl⟩:=hd
  cases hx;cases hy
  exact ⟨by simp [Instr.sameNow],fun hr=>by rw [beq_iff_eq] at hr;subst hr;exact ⟨rfl,by simp [Instr.sameBits]⟩⟩
 ·cases e
  have hd:d= .string:=hd
  subst hd
  obtain ⟨b,rfl,hb⟩:=hx
  obtain ⟨b',rfl,hb'⟩:=hy
  subst hb;subst hb'
  have he:(b==b')=(b.data.toList==b'.data.toList):=by
   rw [show (b==b')=(b.data==b'.data) from rfl,Bool.eq_iff_iff,beq_iff_eq,beq_iff_eq]
   exact ⟨fun h=>by rw [h],fun h=>Array.ext' h⟩
  refine ⟨by simp only [Instr.sameNow];rw [he],fun hr=> ?_⟩
  have hr':=hr
  rw [beq_iff_eq] at hr'
  have:=bytes_ext hr'
  subst this
  exact ⟨rfl,by simp only [Instr.sameBits];rw [he];exact hr⟩
 ·cases e
  have hd:d= .bool:=hd
  subst hd
  cases hx;cases hy
  exact ⟨by simp [Instr.sameNow],fun hr=>by rw [beq_iff_eq] at hr;subst hr;exact ⟨rfl,by simp [Instr.sameBits]⟩⟩
theorem zhw {kd:KD} {d:TypeDesc} (hd:kd.fits d) {k:AVal} {kv:Value} (hk:VRel ρ k kv):
  ∀ {es:List (AVal×AVal×Nat)} {ms:List MapEntry},zeo ρ es ms-> ∀ {i:Nat} {r:Option (Nat×AVal×Nat)},V.findK kd k es i=some r ->
   match r with
   | none=>Instr.findNow d kv ms i=some none
   | some (j,v,n)=> ∃ m e,i <= j /\ ms[j-i]? =some m /\ es[j-i]? =some e /\ e.2=(v,n) /\ Instr.findNow d kv ms i=some (some (j,m.val)) /\ VRel ρ v m.val /\ n=m.born /\ kv=m.key /\ Instr.sameBits 10000 m.key kv=true
 | [],[],_,i,r,e=>by cases e;rfl
 | x::es,m::ms,⟨h1,h2,h3,h4⟩,i,r,e=>by
  simp only [V.findK] at e
  split at e<;>(try (cases e;done))
  ·rename_i hs
   cases e
   obtain ⟨k1,k2⟩:=sameK_run hd hk h1 hs
   obtain ⟨k3,k4⟩:=k2 rfl
   exact ⟨m,x,Nat.le_refl _,by simp,by simp,rfl,by simp [Instr.findNow,k1],h2,h3,k3,k4⟩
  ·rename_i hs
   obtain ⟨k1,_⟩:=sameK_run hd hk h1 hs
   have ih:=zhw hd hk h4 e
   cases r with
   | none=>simpa [Instr.findNow,k1] using ih
   | some q=>
    obtain ⟨j,v,n⟩:=q
    obtain ⟨m',e',a1,a2,a3,a4,a5,a6⟩:=ih
    refine ⟨m',e',by omega,?_,?_,a4,by simpa [Instr.findNow,k1] using a5,a6⟩
    ·rw [show j-i=(j-(i+1))+1 by omega];simpa using a2
    ·rw [show j-i=(j-(i+1))+1 by omega];simpa using a3
theorem zfe {t:TypeId} {d:TypeDesc} (ht:P.underlying t=some d) {kd:KD} (hd:kd.fits d) (e:Bool) (v:Value):(Instr.checkKey e 10000 t v).run P w= .ok () w:=by
 have main: ∀ n,(Instr.checkKey e (n+1) t v).run P w= .ok () w:=fun n=>by
  cases kd with
  | i=>obtain ⟨k,rfl⟩:=hd;simp [Instr.checkKey,run_underlying ht]
  | s=>have hd:d= .string:=hd;subst hd;simp [Instr.checkKey,run_underlying ht]
  | b=>have hd:d= .bool:=hd;subst hd;simp [Instr.checkKey,run_underlying ht]
 exact main 9999
theorem zgi {t:TypeId} {d:TypeDesc} (ht:P.underlying t=some d) {k:Value} {es:List MapEntry} {r:Option (Nat×Value)} (hf:Instr.findNow d k es 0=some r):(Instr.findKey t k es).run P w= .ok r w:=by
 simp [Instr.findKey,run_underlying ht,hf]
theorem zeroV_run {t:TypeId} {z:AVal} (hz:zeroV P t=some z): ∃ zv,(zeroValue t).run P w= .ok zv w /\ VRel ρ z zv:=by
 unfold zeroV at hz
 split at hz
 ·rename_i cs ar h1 h2
  obtain ⟨it,zv,hit,hzv,hv,hone,hlen,hsz,_,_⟩:=zf3 (ρ:=ρ) h1
  rw [hit] at h2
  simp only [Option.bind_some,hzv,Option.some.injEq] at h2
  subst h2
  cases hb:zd1 P t with
  | false=>simp [hb] at hz
  | true=>
   simp only [hb,cond_true,Option.some.injEq] at hz
   subst hz
   exact ⟨.agg ar,by simp [zeroValue,typeInfo,hit,hzv],⟨ar.toList,by simp,hv,hone⟩⟩
 ·rename_i c zc hna h1 h2
  obtain ⟨it,zv,hit,hzv,hv,hone,hlen,hsz,_,_⟩:=zf3 (ρ:=ρ) h1
  cases hb:zd1 P t with
  | true=>simp [hb] at hz
  | false=>
   simp only [hb,cond_false,Option.some.injEq] at hz
   subst hz
   rw [hit] at h2
   simp only [Option.bind_some,hzv,Option.some.injEq] at h2
   subst h2
   refine ⟨zv,by simp [zeroValue,typeInfo,hit,hzv],?_⟩
   have hc:zv.cells= #[zv]:=by
    cases zv with
    | agg ar=>exact absurd rfl (hna ar)
    | _=>rfl
   rw [hc] at hv
   obtain ⟨u,us,e,h1,_⟩:=hv
   cases e
   exact h1
 ·cases hz
theorem zfo {r:Nat} {ms:Array MapEntry} {c:Nat} (hr:w.heap[r]? =some (.map ms c)):(getObj r).run P w= .ok (.map ms c) w:=by simp [getObj,Sem.run,hr]
theorem zh6 {r:Nat} {ms:Array MapEntry} {c:Nat} {ob':Obj} (hr:w.heap[r]? =some (.map ms c)):(setObj r ob').run P w= .ok () { w with heap:=w.heap.setIfInBounds r ob' }:=by simp [setObj,Sem.run,hr]
theorem zqd {x:AVal} {v:Value} {es:List (AVal×AVal×Nat)} (hR:R w0 ρ H w) (hle:h.le H) (hx:VRel ρ x v) (he:A.entries h x=some es):
  (v= .map none /\ es=[]) \/ ∃ r ms c,v= .map (some r) /\ w.heap[r]? =some (.map ms c) /\ zeo ρ es ms.toList:=by
 unfold A.entries at he
 split at he
 ·cases he;exact .inl ⟨hx,rfl⟩
 ·split at he<;>(try (cases he;done))
  rename_i es' c hm
  cases he
  obtain ⟨id,b,rfl,hb,ho⟩:=zld hm
  obtain ⟨L,hL,rfl⟩:=hx
  obtain ⟨ms,h1,h2⟩:=getMap hR (hle id b hb) ho hL
  exact .inr ⟨L.blk,ms,c,rfl,h1,h2⟩
theorem op_lookup {t kt et:TypeId} {x i:Operand} {ok:Bool} (ho:o.op= .lookup t x i ok) (ht:P.underlying t=some (.map kt et)) (hR:R w0 ρ H w) (hle:h.le H) (hs:SRel ρ s a)
  (hop:A.pv (A.lkp h (zhr P kt) (zeroV P et) ok (evS s x) (evS s i)) fun v=>K v h):OpOk P w0 ρ h H K o a w Q:=by
 obtain ⟨r,h1,h2⟩:=zd hop
 have hx:=zc1 hs x
 have hi:=zc1 hs i
 unfold A.lkp at h1
 split at h1<;>(try (cases h1;done))
 rename_i kd z es hkd hz hes
 obtain ⟨d,hd1,hd2⟩:=zij hkd
 obtain ⟨zv,z1,z2⟩:=zeroV_run (w:=w) (ρ:=ρ) hz
 have fin: ∀ (ms:Array MapEntry) (q:Option (Nat×Value)) (u:AVal) (uv:Value) (b:Bool),zeo ρ es ms.toList->Instr.findNow d (a.eval i) ms.toList 0=some q->(match q with|some (_,v)=>(v,true)|none=>(zv,false))=(uv,b)->VRel ρ u uv ->
   r=(bif ok then .tup [u,.bool b] else u)->((execOp a.eval o).run P w= .ok (.value (if ok then .tuple #[uv,.bool b] else uv)) w)->OpOk P w0 ρ h H K o a w Q:=fun ms q u uv b _ _ _ hu hr he=>by
  subst hr
  cases ok with
  | true=>exact zdr hR hle (x:= .tup [u,.bool b]) (v:= .tuple #[uv,.bool b]) (by simpa using he) ⟨[uv,.bool b],rfl,⟨_,_,rfl,hu,_,_,rfl,rfl,rfl⟩⟩ h2
  | false=>exact zdr hR hle (x:=u) (v:=uv) (by simpa using he) hu h2
 have found: ∀ (ms:Array MapEntry),zeo ρ es ms.toList->(∀ (q:Option (Nat×Value)) (uv:Value) (b:Bool),Instr.findNow d (a.eval i) ms.toList 0=some q->(match q with|some (_,v)=>(v,true)|none=>(zv,false))=(uv,b) ->
   (execOp a.eval o).run P w= .ok (.value (if ok then .tuple #[uv,.bool b] else uv)) w)->OpOk P w0 ρ h H K o a w Q:=fun ms hER he=>by
  split at h1<;>(try (cases h1;done))
  ·rename_i j v n hf
   cases h1
   obtain ⟨m,e,_,_,_,_,f1,f2,_⟩:=zhw hd2 hi hER hf
   exact fin ms _ v m.val true hER f1 rfl f2 rfl (he _ _ _ f1 rfl)
  ·rename_i hf
   cases h1
   have f1:=zhw hd2 hi hER hf
   exact fin ms _ z zv false hER f1 rfl z2 rfl (he _ _ _ f1 rfl)
 rcases zqd hR hle hx hes with ⟨ev,rfl⟩|⟨r',ms,c,ev,h3,h4⟩
 ·refine found #[] trivial fun q uv b hq hub=> ?_
  have hk:=zgi (P:=P) (w:=w) hd1 hq
  have hq':q=none:=by simpa [Instr.findNow] using hq.symm
  subst hq'
  cases hub
  simp [execOp,ho,Instr.lookup,run_underlying ht,ev,zfe hd1 hd2,hk,z1]
 ·refine found ms h4 fun q uv b hq hub=> ?_
  have hk:=zgi (P:=P) (w:=w) hd1 hq
  cases q with
  | none=>
   cases hub
   simp [execOp,ho,Instr.lookup,run_underlying ht,ev,zfo h3,zfe hd1 hd2,hk,z1]
  | some q=>
   obtain ⟨j,v⟩:=q
   cases hub
   simp [execOp,ho,Instr.lookup,run_underlying ht,ev,zfo h3,zfe hd1 hd2,hk]
theorem objT_ok {x:AVal} {f:List (AVal×AVal×Nat)->Nat->Option (List (AVal×AVal×Nat)×Nat×AVal)} {K':zQ} {v:Value} (hR:R w0 ρ H w) (hle:h.le H) (hx:VRel ρ x v) (hop:A.objT h x f K')
  (hrun: ∀ (r:Nat) (es es':List (AVal×AVal×Nat)) (c c':Nat) (y:AVal) (ms:Array MapEntry),v= .map (some r)->w.heap[r]? =some (.map ms c)->zeo ρ es ms.toList->f es c=some (es',c',y) ->
   ∃ ms':Array MapEntry,zeo ρ es' ms'.toList /\ ∀ hA:(∀ {u:Value},VRel ρ y u->zmr w0 ρ h H K' u { w with heap:=w.heap.setIfInBounds r (.map ms' c') }),OpOk P w0 ρ h H K o a w Q):OpOk P w0 ρ h H K o a w Q:=by
 unfold A.objT at hop
 split at hop
 ·rename_i id
  split at hop
  ·rename_i b hb
   split at hop
   ·rename_i es c hobj
    split at hop
    ·rename_i es' c' y hf
     obtain ⟨L,hL,ev⟩:=hx
     obtain ⟨ms,h1,h2⟩:=getMap hR (hle id b hb) hobj hL
     obtain ⟨ms',k1,k2⟩:=hrun L.blk es es' c c' y ms ev h1 h2 hf
     refine k2 fun {u} hu=> ?_
     have hRr:=hR.setObj (hle id b hb) hobj hL (o':= .map es' c') (ob':= .map ms' c') ⟨ms',rfl,k1⟩
     exact ⟨⟨y,ρ,_,_,Locs.le_refl ρ,hu,hop,zhj _ hle,Fr.upd hb,hRr⟩⟩
    ·exact hop.elim
   ·exact hop.elim
  ·exact hop.elim
 ·exact hop.elim
theorem zmr.undef {v:Value} {w':World} (hA:zmr w0 ρ h H (fun _ h=>K .undef h) v w'):zmr w0 ρ h H K v w':=by
 obtain ⟨x,ρ',h',H',k1,k2,k3,k4⟩:=hA.ex
 exact ⟨⟨.undef,ρ',h',H',k1,trivial,k3,k4⟩⟩
theorem zj8 {u v:Value} (h:Instr.sameBits 10000 u v=true):(Instr.keyThatStays u v).run P w= .ok v w:=by
 simp [Instr.keyThatStays,h]
theorem zl4 {α:Type} {l:List α} {j:Nat} {m:α} (hj:l[j]? =some m) (f:α->α):l.modify j f=l.set j (f m):=by
 apply List.ext_getElem?
 intro i
 rw [List.getElem?_modify,List.getElem?_set]
 by_cases h:j=i
 ·subst h
  have:=(List.getElem?_eq_some_iff.1 hj).1
  rw [List.getElem?_eq_getElem this] at hj
  simp only [Option.some.injEq] at hj
  simp [this,hj]
 ·simp [h]
theorem modify_eq {ms:Array MapEntry} {j:Nat} {m:MapEntry} (hj:ms.toList[j]? =some m) (f:MapEntry->MapEntry):(ms.modify j f).toList=ms.toList.set j (f m):=by
 rw [Array.toList_modify,zl4 hj]
theorem op_mapUpdate {t kt et:TypeId} {x k v:Operand} (ho:o.op= .mapUpdate t x k v) (ht:P.underlying t=some (.map kt et)) (hR:R w0 ρ H w) (hle:h.le H) (hs:SRel ρ s a)
  (hop:A.mset h (zhr P kt) (evS s x) (evS s k) (evS s v) fun h=>K .undef h):OpOk P w0 ρ h H K o a w Q:=by
 have hx:=zc1 hs x
 have hk:=zc1 hs k
 have hv:=zc1 hs v
 refine objT_ok hR hle hx hop fun r es es' c c' y ms ev h3 hER hf=> ?_
 unfold A.fset at hf
 split at hf<;>(try (cases hf;done))
 rename_i kd hkd
 obtain ⟨d,hd1,hd2⟩:=zij hkd
 split at hf<;>(try (cases hf;done))
 ·rename_i i v' n hfk
  cases hf
  obtain ⟨m,e,_,f1,f2,f3,f4,f5,f6,f7,f8⟩:=zhw hd2 hk hER hfk
  rw [Nat.sub_zero] at f1 f2
  refine ⟨ms.modify i fun e=>{ e with key:=a.eval k,val:=a.eval v },?_,fun hA=> ?_⟩
  ·rw [modify_eq f1];exact hER.set i hk hv (by rw [f6])
  ·refine ok_skip (w':={ w with heap:=w.heap.setIfInBounds r (.map (ms.modify i fun e=>{ e with key:=a.eval k,val:=a.eval v }) c) }) ?_ (hA (u:=Go.undef) trivial).undef
   have f1':ms[i]? =some m:=by simpa using f1
   simp [execOp,ho,Instr.mapUpdate,run_underlying ht,ev,zfo h3,zfe hd1 hd2,zgi hd1 f4,f1',zj8 f8,zh6 h3]
 ·rename_i hfk
  cases hf
  have f4:=zhw hd2 hk hER hfk
  refine ⟨ms.push { key:=a.eval k,val:=a.eval v,born:=c },?_,fun hA=> ?_⟩
  ·rw [Array.toList_push];exact hER.append ⟨hk,hv,rfl,trivial⟩
  ·refine ok_skip (w':={ w with heap:=w.heap.setIfInBounds r (.map (ms.push { key:=a.eval k,val:=a.eval v,born:=c }) (c+1)) }) ?_ (hA (u:=Go.undef) trivial).undef
   simp [execOp,ho,Instr.mapUpdate,run_underlying ht,ev,zfo h3,zfe hd1 hd2,zgi hd1 f4,zh6 h3]
theorem op_mapEntry {t kt et:TypeId} {x k:Operand} (ho:o.op= .mapEntry t x k) (ht:P.underlying t=some (.map kt et)) (hR:R w0 ρ H w) (hle:h.le H) (hs:SRel ρ s a)
  (hop:A.mentry h (zhr P kt) (zeroV P et) (evS s x) (evS s k) K):OpOk P w0 ρ h H K o a w Q:=by
 have hx:=zc1 hs x
 have hk:=zc1 hs k
 refine objT_ok hR hle hx hop fun r es es' c c' y ms ev h3 hER hf=> ?_
 unfold A.fentry at hf
 split at hf<;>(try (cases hf;done))
 rename_i kd z hkd hz
 obtain ⟨d,hd1,hd2⟩:=zij hkd
 obtain ⟨zv,z1,z2⟩:=zeroV_run (w:=w) (ρ:=ρ) hz
 split at hf<;>(try (cases hf;done))
 ·rename_i i v' n hfk
  cases hf
  obtain ⟨m,e,_,f1,f2,f3,f4,f5,f6,f7,f8⟩:=zhw hd2 hk hER hfk
  rw [Nat.sub_zero] at f1 f2
  refine ⟨ms.modify i fun e=>{ e with key:=a.eval k },?_,fun hA=> ?_⟩
  ·rw [modify_eq f1];exact hER.set i hk f5 (by rw [f6])
  ·refine zel (v:= .tuple #[m.val,.int .i64 m.born]) (w':={ w with heap:=w.heap.setIfInBounds r (.map (ms.modify i fun e=>{ e with key:=a.eval k }) c) }) ?_ (hA ⟨_,rfl,⟨_,_,rfl,f5,_,_,rfl,by rw [f6];rfl,rfl⟩⟩)
   have f1':ms[i]? =some m:=by simpa using f1
   simp [execOp,ho,Instr.mapEntry,run_underlying ht,ev,zfo h3,zfe hd1 hd2,zgi hd1 f4,f1',zj8 f8,zh6 h3,goInt]
 ·rename_i hfk
  cases hf
  have f4:=zhw hd2 hk hER hfk
  refine ⟨ms.push { key:=a.eval k,val:=zv,born:=c },?_,fun hA=> ?_⟩
  ·rw [Array.toList_push];exact hER.append ⟨hk,z2,rfl,trivial⟩
  ·refine zel (v:= .tuple #[zv,.int .i64 c]) (w':={ w with heap:=w.heap.setIfInBounds r (.map (ms.push { key:=a.eval k,val:=zv,born:=c }) (c+1)) }) ?_ (hA ⟨_,rfl,⟨_,_,rfl,z2,_,_,rfl,rfl,rfl⟩⟩)
   simp [execOp,ho,Instr.mapEntry,run_underlying ht,ev,zfo h3,zfe hd1 hd2,zgi hd1 f4,z1,zh6 h3,goInt]
theorem op_entryStore {t kt et:TypeId} {x n v:Operand} (ho:o.op= .entryStore t x n v) (ht:P.underlying t=some (.map kt et)) (hR:R w0 ρ H w) (hle:h.le H) (hs:SRel ρ s a)
  (hop:A.mstore h (evS s x) (evS s n) (evS s v) fun h=>K .undef h):OpOk P w0 ρ h H K o a w Q:=by
 have hx:=zc1 hs x
 have hn:=zc1 hs n
 have hv:=zc1 hs v
 refine objT_ok hR hle hx hop fun r es es' c c' y ms ev h3 hER hf=> ?_
 unfold A.fstore at hf
 split at hf<;>(try (cases hf;done))
 rename_i kn n' he
 rw [he] at hn
 have en:a.eval n= .int kn n':=hn
 split at hf<;>(try (cases hf;done))
 rename_i i hi
 cases hf
 have hi':ms.findIdx? (fun e=>(e.born:Int)==n')=some i:=by
  rw [<- hi,show ms=ms.toList.toArray from (Array.toArray_toList).symm,List.findIdx?_toArray]
  exact (hER.findIdx fun b=>(b:Int)==n').symm
 have hlt:i<ms.toList.length:=by
  obtain ⟨h4,_⟩:=List.findIdx?_eq_some_iff_getElem.1 hi
  rw [<- hER.length];exact h4
 obtain ⟨m,f1⟩: ∃ m,ms.toList[i]? =some m:=⟨_,List.getElem?_eq_getElem hlt⟩
 have hlt':i<es.length:=by rw [hER.length];exact hlt
 obtain ⟨m',f2,f3,f4,f5⟩:=hER.get (List.getElem?_eq_getElem hlt')
 rw [f1] at f2
 cases f2
 refine ⟨ms.modify i fun e=>{ e with val:=a.eval v },?_,fun hA=> ?_⟩
 ·rw [modify_eq f1,zl4 (List.getElem?_eq_getElem hlt')]
  exact hER.set i f3 hv f5
 ·refine ok_skip (w':={ w with heap:=w.heap.setIfInBounds r (.map (ms.modify i fun e=>{ e with val:=a.eval v }) c) }) ?_ (hA (u:=Go.undef) trivial).undef
  simp [execOp,ho,Instr.entryStore,ev,en,zfo h3,asInt,asIntOf,hi',zh6 h3]
theorem op_delete {c:Call} {t kt et:TypeId} {r:List TypeId} {x k:Operand} (ho:o.op= .call c) (hc:c.callee= .builtin .delete) (ha:c.argTypes.toList=t::r) (hargs:c.args.toList=[x,k]) (ht:P.underlying t=some (.map kt et))
  (hR:R w0 ρ H w) (hle:h.le H) (hs:SRel ρ s a) (hop:A.mdel h (zhr P kt) (evS s x) (evS s k) K):OpOk P w0 ρ h H K o a w Q:=by
 have hx:=zc1 hs x
 have hk:=zc1 hs k
 have hat:=zi0 ha
 have main: ∀ r w',(Builtin.delete_ c.argTypes o.type #[a.eval x,a.eval k]).run P w= .ok r w'->(execOp a.eval o).run P w= .ok (.value r) w':=fun r w' hh=>by
  obtain ⟨_,hex⟩:=zf2 (P:=P) (w:=w) (a:=a) ho hc hargs;rw [hex];simp [builtin,hh]
 unfold A.mdel at hop
 split at hop
 ·rename_i he
  rw [he] at hx
  have ev:a.eval x= .map none:=hx
  refine zdr hR hle (x:= .tup []) (v:= .tuple #[]) (main _ _ ?_) ⟨[],rfl,rfl⟩ hop.2
  obtain ⟨kd,hkd⟩:=Option.isSome_iff_exists.1 hop.1
  obtain ⟨d,hd1,hd2⟩:=zij hkd
  simp [Builtin.delete_,hat,run_underlying ht,ev,zfe hd1 hd2]
 ·refine objT_ok hR hle hx hop fun r es es' c' c2 y ms ev h3 hER hf=> ?_
  unfold A.fdel at hf
  split at hf<;>(try (cases hf;done))
  rename_i kd hkd
  obtain ⟨d,hd1,hd2⟩:=zij hkd
  split at hf<;>(try (cases hf;done))
  ·rename_i i q hfk
   cases hf
   obtain ⟨v',n⟩:=q
   obtain ⟨m,e,_,f1,f2,f3,f4,f5,f6,f7,f8⟩:=zhw hd2 hk hER hfk
   refine ⟨ms.eraseIdxIfInBounds i,?_,fun hA=> ?_⟩
   ·rw [Array.toList_eraseIdxIfInBounds];exact hER.eraseIdx i
   ·refine zel (v:= .tuple #[]) (w':={ w with heap:=w.heap.setIfInBounds r (.map (ms.eraseIdxIfInBounds i) c') }) (main _ _ ?_) (hA ⟨[],rfl,rfl⟩)
    simp [Builtin.delete_,hat,run_underlying ht,ev,zfo h3,zfe hd1 hd2,zgi hd1 f4,zh6 h3]
  ·rename_i hfk
   cases hf
   have f4:=zhw hd2 hk hER hfk
   refine ⟨ms,hER,fun hA=> ?_⟩
   refine zel (v:= .tuple #[]) (w':={ w with heap:=w.heap.setIfInBounds r (.map ms c') }) (main _ _ ?_) (hA ⟨[],rfl,rfl⟩)
   simp [Builtin.delete_,hat,run_underlying ht,ev,zfo h3,zfe hd1 hd2,zgi hd1 f4,zh6 h3]
theorem op_lenMap {c:Call} {t kt et:TypeId} {r:List TypeId} {x:Operand} (ho:o.op= .call c) (hc:c.callee= .builtin .len) (ha:c.argTypes.toList=t::r) (hargs:c.args.toList=[x]) (ht:P.underlying t=some (.map kt et))
  (hR:R w0 ρ H w) (hle:h.le H) (hs:SRel ρ s a) (hop:A.pv (A.zp2 h (evS s x)) fun v=>K v h):OpOk P w0 ρ h H K o a w Q:=by
 have hx:=zc1 hs x
 have hat:=zi0 ha
 have main: ∀ n,(Builtin.len_ c.argTypes o.type #[a.eval x]).run P w= .ok (.int .i64 n) w->(execOp a.eval o).run P w= .ok (.value (.int .i64 n)) w:=fun n hh=>by
  obtain ⟨_,hex⟩:=zf2 (P:=P) (w:=w) (a:=a) ho hc hargs;rw [hex];simp [builtin,hh]
 obtain ⟨v,h1,h2⟩:=zd hop
 unfold A.zp2 at h1
 split at h1<;>(try (cases h1;done))
 rename_i es hes
 cases h1
 refine zdr hR hle (x:= .int .i64 es.length) (v:= .int .i64 es.length) (main _ ?_) rfl h2
 rcases zqd hR hle hx hes with ⟨ev,rfl⟩|⟨r',ms,c',ev,h3,h4⟩
 ·simp [Builtin.len_,hat,run_underlying ht,ev,goInt]
 ·have:=h4.length
  simp [Builtin.len_,hat,run_underlying ht,ev,goInt,zfo h3]
  simp only [Array.length_toList] at this
  omega
theorem op_makeMap {t kt et:TypeId} (ho:o.op= .makeMap t none) (ht:P.underlying t=some (.map kt et)) (hR:R w0 ρ H w) (hle:h.le H) (hop:A.newObj h (.map [] 0) fun id h=>K (.mp id) h):OpOk P w0 ρ h H K o a w Q:=by
 obtain ⟨N,hN⟩:=hR.fin
 obtain ⟨hHN,hρN⟩:=hN N (Nat.le_refl N)
 have hhN:h N=none:=by
  cases e:h N with
  | none=>rfl
  | some b=>have:=hle N b e;rw [hHN] at this;cases this
 have hRr:=hR.newObj hHN hρN (o:= .map [] 0) (ob:= .map #[] 0) ⟨#[],rfl,trivial⟩
 refine zel (v:= .map (some w.heap.size)) (w':={ w with heap:=w.heap.push (.map #[] 0) }) ?_
  ⟨⟨.mp N,_,_,_,Locs.zkt _ (hρN 0),⟨_,Locs.zex ..,rfl⟩,hop N hhN,zhj _ hle,Fr.fresh hHN,hRr⟩⟩
 simp [execOp,ho,Instr.makeMap]
theorem op_rangeMap {t kt et:TypeId} {x:Operand} (ho:o.op= .range t x) (ht:P.underlying t=some (.map kt et)) (hR:R w0 ρ H w) (hle:h.le H) (hs:SRel ρ s a) (hop:A.rangeMap h (evS s x) K):OpOk P w0 ρ h H K o a w Q:=by
 have hx:=zc1 hs x
 obtain ⟨N,hN⟩:=hR.fin
 obtain ⟨hHN,hρN⟩:=hN N (Nat.le_refl N)
 have hhN:h N=none:=by
  cases e:h N with
  | none=>rfl
  | some b=>have:=hle N b e;rw [hHN] at this;cases this
 unfold A.rangeMap at hop
 split at hop
 ·rename_i he
  rw [he] at hx
  have ev:a.eval x= .map none:=hx
  have hRr:=hR.newObj hHN hρN (o:= .mapIter none 0 [] 0) (ob:= .mapIter none 0 #[] 0) rfl
  refine zel (v:= .pointer (some ⟨w.heap.size,0,none⟩)) (w':={ w with heap:=w.heap.push (.mapIter none 0 #[] 0) }) ?_
   ⟨⟨.ptr N 0 0,_,_,_,Locs.zkt _ (hρN 0),⟨_,Locs.zex ..,Nat.le_refl _,rfl⟩,hop N hhN,zhj _ hle,Fr.fresh hHN,hRr⟩⟩
  simp [execOp,ho,ev,Instr.range,run_underlying ht]
 ·rename_i m he
  split at hop
  ·rename_i es c hm
   obtain ⟨id,b,e1,hb,hobj⟩:=zld hm
   rw [he] at e1 hx
   cases e1
   obtain ⟨L,hL,ev⟩:=hx
   obtain ⟨ms,h3,h4⟩:=getMap hR (hle m b hb) hobj hL
   have hRr:=hR.newObj hHN hρN (o:= .mapIter (some m) c [] c) (ob:= .mapIter (some L.blk) c #[] c) ⟨L,hL,rfl⟩
   refine zel (v:= .pointer (some ⟨w.heap.size,0,none⟩)) (w':={ w with heap:=w.heap.push (.mapIter (some L.blk) c #[] c) }) ?_
    ⟨⟨.ptr N 0 0,_,_,_,Locs.zkt _ (hρN 0),⟨_,Locs.zex ..,Nat.le_refl _,rfl⟩,hop N hhN,zhj _ hle,Fr.fresh hHN,hRr⟩⟩
   simp [execOp,ho,ev,Instr.range,run_underlying ht,zfo h3]
  ·exact hop.elim
 ·exact hop.elim
theorem upd_self {h:za} {id:Nat} {b:Blk} (hb:h id=some b):Ab.upd h id b=h:=za.ext fun i=>by
 by_cases hi:i=id
 ·subst hi;rw [zca,hb]
 ·rw [z6 _ _ hi]
theorem op_nextMap {x:Operand} (ho:o.op= .next x false) (hR:R w0 ρ H w) (hle:h.le H) (hs:SRel ρ s a) (hop:A.zfc h (evS s x) K):OpOk P w0 ρ h H K o a w Q:=by
 have hx:=zc1 hs x
 unfold A.zfc at hop
 split at hop
 ·rename_i id l hst
  unfold A.steps at hst
  split at hst<;>(try (cases hst;done))
  rename_i id' he
  rw [he] at hx
  split at hst<;>(try (cases hst;done))
  rename_i b hb
  obtain ⟨L,hL,hlo,ev⟩:=hx
  split at hst<;>(try (cases hst;done))
  ·rename_i since seen last hobj
   cases hst
   obtain ⟨hg0,L0,ob,q1,q2,q3,q4,q5,q6⟩:=(hR.blk _ b (hle _ b hb)).obj _ hobj
   rw [hL] at q1
   cases q1
   have q6:ob= .mapIter none since seen.toArray last:=q6
   subst q6
   rw [q2,q3] at ev
   have hh:=hop (b,.tup [.bool false]) (by simp)
   rw [upd_self hb] at hh
   refine zdr hR hle (x:= .tup [.bool false]) (v:= .tuple #[.bool false]) ?_ ⟨_,rfl,⟨_,_,rfl,rfl,rfl⟩⟩ hh
   have hget:(getObj L.blk).run P w= .ok (.mapIter none since seen.toArray last) w:=by simp [getObj,Sem.run,q5]
   simp [execOp,ho,ev,Instr.next,hget]
  ·rename_i m since seen last hobj
   obtain ⟨hg0,L0,ob,q1,q2,q3,q4,q5,q6⟩:=(hR.blk _ b (hle _ b hb)).obj _ hobj
   rw [hL] at q1
   cases q1
   obtain ⟨Lm,hLm,q6⟩:=q6
   subst q6
   rw [q2,q3] at ev
   split at hst<;>(try (cases hst;done))
   rename_i es c hm
   obtain ⟨idm,bm,e1,hbm,hobjm⟩:=zld hm
   cases e1
   obtain ⟨ms,h3,h4⟩:=getMap hR (hle _ bm hbm) hobjm hLm
   cases hck:(es.all fun e=>Nat.blt e.2.2 since)&&Nat.ble since last with
   | false=>rw [hck] at hst;cases hst
   | true=>
    rw [hck] at hst
    simp only [cond_true,Option.some.injEq,Prod.mk.injEq] at hst
    obtain ⟨rfl,rfl⟩:=hst
    rw [Bool.and_eq_true,List.all_eq_true,Nat.ble_eq] at hck
    have hold: ∀ y∈ms.toList,y.born<since:=fun y hy=>by
     obtain ⟨e,he1,_,_,he2⟩:=h4.mem y hy
     have:=hck.1 e he1
     rw [Nat.blt_eq] at this
     omega
    have hfl:=h4.filter fun n=> !seen.contains n
    have hle':(leftOf ms seen.toArray).toList=ms.toList.filter fun m=> !seen.contains m.born:=by
     simp [leftOf]
    rw [<- hle'] at hfl
    rcases run_next_at (P:=P) w o.type L.blk Lm.blk since last seen.toArray ms c q5 h3 hold hck.2 with ⟨n0,hrun⟩|⟨y,hy,w1,hw1,hrun⟩
    ·have hn:es.filter (fun e=> !seen.contains e.2.2)=[]:=by
      have:=hfl.length
      apply List.eq_nil_of_length_eq_zero
      rw [this];simpa using n0
     rw [hn] at hop
     have hh:=hop (b,.tup [.bool false]) (by simp)
     rw [upd_self hb] at hh
     refine zdr hR hle (x:= .tup [.bool false]) (v:= .tuple #[.bool false]) ?_ ⟨_,rfl,⟨_,_,rfl,rfl,rfl⟩⟩ hh
     simp [execOp,ho,ev,hrun]
    ·obtain ⟨e,he1,he2,he3,he4⟩:=hfl.mem y hy
     have hR1:R w0 ρ H w1:=by
      rcases hw1 with rfl|rfl
      ·exact hR
      ·exact hR.drew _
     have q51:w1.heap[L.blk]? =some (.mapIter (some Lm.blk) since seen.toArray last):=by rcases hw1 with rfl|rfl<;>exact q5
     have hRr:=hR1.setObj (hle _ b hb) hobj hL (o':= .mapIter (some m) since (seen++[e.2.2]) c) (ob':= .mapIter (some Lm.blk) since (seen.toArray.push y.born) c) ⟨Lm,hLm,by rw [he4];simp⟩
     have hh:K (.tup [.bool true,e.1,e.2.1]) (Ab.upd h id' { b with obj:=some (.mapIter (some m) since (seen++[e.2.2]) c) }):=by
      refine hop ({ b with obj:=some (.mapIter (some m) since (seen++[e.2.2]) c) },.tup [.bool true,e.1,e.2.1]) ?_
      split
      ·rename_i hn;rw [hn] at he1;cases he1
      ·rename_i l' hl'
       rw [List.mem_map];exact ⟨e,he1,rfl⟩
     refine zel (v:= .tuple #[.bool true,y.key,y.val]) (w':=ChangeMaps.setBlock w1 L.blk (.mapIter (some Lm.blk) since (seen.toArray.push y.born) c)) ?_
      ⟨⟨.tup [.bool true,e.1,e.2.1],ρ,_,_,Locs.le_refl ρ,⟨_,rfl,⟨_,_,rfl,rfl,_,_,rfl,he2,_,_,rfl,he3,rfl⟩⟩,hh,zhj _ hle,Fr.upd hb,hRr⟩⟩
     simp [execOp,ho,ev,hrun]
 ·exact hop.elim
theorem op_entry {x:Operand} (ho:o.op= .entry x) (hR:R w0 ρ H w) (hle:h.le H) (hs:SRel ρ s a) (hop:A.pv (A.zgr h (evS s x)) fun v=>K v h):OpOk P w0 ρ h H K o a w Q:=by
 have hx:=zc1 hs x
 obtain ⟨v,h1,h2⟩:=zd hop
 unfold A.zgr at h1
 split at h1<;>(try (cases h1;done))
 rename_i id he
 rw [he] at hx
 split at h1<;>(try (cases h1;done))
 rename_i b hb
 obtain ⟨L,hL,hlo,ev⟩:=hx
 split at h1<;>(try (cases h1;done))
 rename_i m since seen last hobj
 obtain ⟨hg0,L0,ob,q1,q2,q3,q4,q5,q6⟩:=(hR.blk _ b (hle _ b hb)).obj _ hobj
 rw [hL] at q1
 cases q1
 obtain ⟨Lm,hLm,q6⟩:=q6
 subst q6
 rw [q2,q3] at ev
 split at h1<;>(try (cases h1;done))
 rename_i es c n hm hn
 obtain ⟨idm,bm,e1,hbm,hobjm⟩:=zld hm
 cases e1
 obtain ⟨ms,h3,h4⟩:=getMap hR (hle _ bm hbm) hobjm hLm
 cases hck:Nat.beq c last with
 | false=>rw [hck] at h1;cases h1
 | true=>
  rw [hck] at h1
  simp only [cond_true] at h1
  have hcl:=Nat.eq_of_beq_eq_true hck
  subst hcl
  split at h1<;>(try (cases h1;done))
  rename_i e hf
  cases h1
  obtain ⟨y,hy,k1,k2⟩:=h4.find (fun k=>Nat.beq k n) hf
  have hy':ms.find? (fun e=>e.born==n)=some y:=by
   rw [<- Array.find?_toList]
   rw [<- hy]
   congr 1
   funext m
   rw [Bool.eq_iff_iff,beq_iff_eq,Nat.beq_eq]
  have hget:(getObj L.blk).run P w= .ok (.mapIter (some Lm.blk) since seen.toArray c) w:=by simp [getObj,Sem.run,q5]
  refine zdr hR hle (x:= .tup [e.1,e.2.1]) (v:= .tuple #[y.key,y.val]) ?_ ⟨_,rfl,⟨_,_,rfl,k1,_,_,rfl,k2,rfl⟩⟩ h2
  have hb:seen.toArray.back? =some n:=by simpa [Array.back?_eq_getElem?,List.getLast?_eq_getElem?] using hn
  simp [execOp,ho,ev,Instr.entry,hget,hb,zfo h3,hy']
end
end Go.Ab
namespace Go.Ab
open Go.RowKit (Below)
theorem zik {p q:Prop} {b:Bool} (h:bif b then p else q):(b=true /\ p) \/ (b=false /\ q):=by
 cases b
 ·exact .inr ⟨rfl,h⟩
 ·exact .inl ⟨rfl,h⟩
section
variable {P:Program} {w0:World} {ρ:Locs} {h H:za} {w:World} {s:zcf} {a:Act} {K:zQ} {o:Oper} {Q:Exit->Act->World->Prop}
theorem zhu {t:TypeId} (h:Nat.beq (P.cellsOf t) 0=false): ∃ i,P.info? t=some i:=by
 cases hh:P.info? t with
 | none=>simp [Program.cellsOf,hh] at h
 | some i=>exact ⟨i,rfl⟩
theorem builtin_sound {c:Call} {b:Builtin} (ho:o.op= .call c) (hc:c.callee= .builtin b) (hR:R w0 ρ H w) (hle:h.le H) (hs:SRel ρ s a)
  (hop:zk7 P b c.argTypes.toList (c.args.toList.map (evS s)) h K):OpOk P w0 ρ h H K o a w Q:=by
 unfold zk7 at hop
 split at hop
 ·
  rename_i t r x e1 e2
  obtain ⟨x',ha,hx'⟩: ∃ x',c.args.toList=[x'] /\ evS s x'=x:=by
   cases hl:c.args.toList with
   | nil=>rw [hl] at e2;cases e2
   | cons y r=>rw [hl] at e2;simp at e2;exact ⟨y,by rw [e2.2],e2.1⟩
  subst hx'
  split at hop
  ·rename_i ht;exact op_len ho hc e1 ha hR hle hs (by rw [ht];exact hop)
  ·rename_i ht;exact op_len ho hc e1 ha hR hle hs (by rw [ht];exact hop)
  ·rename_i ht;exact op_len ho hc e1 ha hR hle hs (by rw [ht];exact hop)
  ·rename_i ht;exact op_lenMap ho hc e1 ha ht hR hle hs hop
  ·exact hop.elim
 ·
  rename_i t x e1 e2
  obtain ⟨x',ha,rfl⟩: ∃ x',c.args.toList=[x'] /\ evS s x'=x:=by
   cases hl:c.args.toList with
   | nil=>rw [hl] at e2;cases e2
   | cons y r=>rw [hl] at e2;simp at e2;exact ⟨y,by rw [e2.2],e2.1⟩
  split at hop
  ·rename_i e ht
   obtain ⟨hok,hop2⟩:=A.zl1.1 hop
   rw [Nat.blt_eq] at hok
   exact op_clear ho hc e1 ha ht hok hR hle hs hop2
  ·exact hop.elim
 ·
  rename_i t r x k e1 e2
  obtain ⟨x',y',ha,rfl,rfl⟩: ∃ x' y',c.args.toList=[x',y'] /\ evS s x'=x /\ evS s y'=k:=by
   cases hl:c.args.toList with
   | nil=>rw [hl] at e2;cases e2
   | cons p r=>
    cases r with
    | nil=>rw [hl] at e2;simp at e2
    | cons q r=>rw [hl] at e2;simp at e2;exact ⟨p,q,by rw [e2.2.2],e2.1,e2.2.1⟩
  split at hop
  ·rename_i ht;exact op_delete ho hc e1 ha ht hR hle hs hop
  ·exact hop.elim
 ·
  rename_i t u x y e1 e2
  obtain ⟨x',y',ha,rfl,rfl⟩: ∃ x' y',c.args.toList=[x',y'] /\ evS s x'=x /\ evS s y'=y:=by
   cases hl:c.args.toList with
   | nil=>rw [hl] at e2;cases e2
   | cons p r=>
    cases r with
    | nil=>rw [hl] at e2;simp at e2
    | cons q r=>rw [hl] at e2;simp at e2;exact ⟨p,q,by rw [e2.2.2],e2.1,e2.2.1⟩
  split at hop
  ·rename_i e e' ht hu
   obtain ⟨hok,hop2⟩:=A.zl1.1 hop
   rw [Bool.and_eq_true,Bool.and_eq_true,Nat.blt_eq,Nat.beq_eq] at hok
   obtain ⟨hpos,rfl,hz⟩:=hok
   exact op_append ho hc (by apply Array.ext';simpa using e1) (by apply Array.ext';simpa using ha) ht hpos hz hR hle hs hop2
  ·rename_i e ht hu
   obtain ⟨hok,hop2⟩:=A.zl1.1 hop
   rw [Bool.and_eq_true] at hok
   exact op_appendStr ho hc (by apply Array.ext';simpa using e1) (by apply Array.ext';simpa using ha) ht hu hok.1 hok.2 hR hle hs hop2
  ·rename_i e k ht hu
   obtain ⟨hok,hop2⟩:=A.zl1.1 hop
   rw [Nat.blt_eq] at hok
   exact op_appendZ ho hc (by apply Array.ext';simpa using e1) (by apply Array.ext';simpa using ha) ht hu hok hR hle hs hop2
  ·exact hop.elim
 ·
  rename_i t u x y e1 e2
  obtain ⟨x',y',ha,rfl,rfl⟩: ∃ x' y',c.args.toList=[x',y'] /\ evS s x'=x /\ evS s y'=y:=by
   cases hl:c.args.toList with
   | nil=>rw [hl] at e2;cases e2
   | cons p r=>
    cases r with
    | nil=>rw [hl] at e2;simp at e2
    | cons q r=>rw [hl] at e2;simp at e2;exact ⟨p,q,by rw [e2.2.2],e2.1,e2.2.1⟩
  split at hop
  ·rename_i e ht
   obtain ⟨hok,hop2⟩:=A.zl1.1 hop
   rw [Bool.and_eq_true,Nat.blt_eq,Nat.beq_eq] at hok
   obtain ⟨_,hpos⟩:=hok
   exact op_copy ho hc e1 ha ht hpos hR hle hs hop2
  ·exact hop.elim
 ·rename_i x y e2
  obtain ⟨x',y',ha,rfl,rfl⟩: ∃ x' y',c.args.toList=[x',y'] /\ evS s x'=x /\ evS s y'=y:=by
   cases hl:c.args.toList with
   | nil=>rw [hl] at e2;cases e2
   | cons p r=>
    cases r with
    | nil=>rw [hl] at e2;simp at e2
    | cons q r=>rw [hl] at e2;simp at e2;exact ⟨p,q,by rw [e2.2.2],e2.1,e2.2.1⟩
  exact op_minmax (.inl ⟨rfl,rfl⟩) ho hc ha hR hle hs hop
 ·rename_i x y e2
  obtain ⟨x',y',ha,rfl,rfl⟩: ∃ x' y',c.args.toList=[x',y'] /\ evS s x'=x /\ evS s y'=y:=by
   cases hl:c.args.toList with
   | nil=>rw [hl] at e2;cases e2
   | cons p r=>
    cases r with
    | nil=>rw [hl] at e2;simp at e2
    | cons q r=>rw [hl] at e2;simp at e2;exact ⟨p,q,by rw [e2.2.2],e2.1,e2.2.1⟩
  exact op_minmax (.inr ⟨rfl,rfl⟩) ho hc ha hR hle hs hop
 ·
  rename_i t r x e1 e2
  obtain ⟨x',ha,hx'⟩: ∃ x',c.args.toList=[x'] /\ evS s x'=x:=by
   cases hl:c.args.toList with
   | nil=>rw [hl] at e2;cases e2
   | cons y r=>rw [hl] at e2;simp at e2;exact ⟨y,by rw [e2.2],e2.1⟩
  subst hx'
  split at hop
  ·rename_i ht;exact op_cap ho hc e1 ha ht hR hle hs hop
  ·exact hop.elim
 ·exact hop.elim
theorem op_sound (hR:R w0 ρ H w) (hle:h.le H) (hs:SRel ρ s a) (hop:opWp P (AC P) o.op s h K):OpOk P w0 ρ h H K o a w Q:=by
 cases ho:o.op with
 | move x=>rw [ho] at hop;exact op_move (.inl ho) hR hle hs hop
 | assign x=>rw [ho] at hop;exact op_move (.inr ho) hR hle hs hop
 | pick c x y=>rw [ho] at hop;exact op_pick ho hR hle hs hop
 | alloc t=>rw [ho] at hop;exact op_alloc ho hR hle hop
 | box t x=>rw [ho] at hop;exact op_box ho hR hle hs hop
 | build t ps=>rw [ho] at hop;exact op_build ho hR hle hs hop
 | buildSlice t n ps=>rw [ho] at hop;exact op_buildSlice ho hR hle hs hop
 | load t x=>
  rw [ho] at hop
  simp only [opWp] at hop
  split at hop
  ·exact hop.elim
  ·rename_i d hd
   rcases zik hop with ⟨hb,hop⟩|⟨hb,hop⟩
   ·exact op_loadN ho hb hR hle hs hop
   ·exact op_load1 ho hb ⟨d,hd⟩ hR hle hs hop
 | store t x v=>
  rw [ho] at hop
  simp only [opWp] at hop
  rcases zik hop with ⟨hb,hop⟩|⟨hb,hop⟩
  ·have hd: ∃ i,P.info? t=some i:=by
    unfold zd1 at hb
    cases hu:P.underlying t with
    | none=>simp [hu] at hb
    | some d=>exact info_of_underlying hu
   exact op_storeN ho hd hR hle hs hop
  ·rcases zik hop with ⟨hc,hop⟩|⟨_,hop⟩
   ·exact op_store1 ho (Nat.eq_of_beq_eq_true hc) hR hle hs hop
   ·exact hop.elim
 | nilCheck x=>rw [ho] at hop;exact op_nilCheck ho hR hle hs hop
 | binOp op t x y u=>rw [ho] at hop;exact op_bin ho hR hle hs hop
 | unOp op t x=>rw [ho] at hop;exact op_un ho hR hle hs hop
 | convert src dst x=>rw [ho] at hop;exact op_convert ho hR hle hs hop
 | makeSlice t l c=>rw [ho] at hop;exact op_makeSlice ho hR hle hs hop
 | slice t x lo hi mx=>
  rw [ho] at hop
  simp only [opWp] at hop
  split at hop
  ·rename_i ht;exact op_cutStr ho ht hR hle hs hop
  ·rename_i e ht
   rcases zik hop with ⟨_,hop⟩|⟨hb,hop⟩
   ·exact hop.elim
   ·exact op_cutSl ho ht (zhu hb) hR hle hs hop
  ·rename_i e mx ht
   rcases zik hop with ⟨_,hop⟩|⟨hb,hop⟩
   ·exact hop.elim
   ·split at hop
    ·rename_i lo hi _
     exact op_cut3 ho ht (zhu hb) hR hle hs (.inr ⟨lo,rfl,zc1 hs lo⟩) ⟨hi,rfl,zc1 hs hi⟩ hop
    ·rename_i hi _
     exact op_cut3 ho ht (zhu hb) hR hle hs (.inl ⟨rfl,rfl⟩) ⟨hi,rfl,zc1 hs hi⟩ hop
    ·exact hop.elim
  ·exact hop.elim
 | fieldAddr t x f=>
  rw [ho] at hop
  simp only [opWp] at hop
  split at hop
  ·rename_i fs ht
   split at hop
   ·rename_i fd hf
    rcases zik hop with ⟨_,hop⟩|⟨hb,hop⟩
    ·exact hop.elim
    ·exact op_fieldAddr ho ht hf hb hR hle hs hop
   ·exact hop.elim
  ·exact hop.elim
 | field t x f=>
  rw [ho] at hop
  simp only [opWp] at hop
  split at hop
  ·rename_i fs ht
   split at hop
   ·rename_i fd hf
    split at hop
    ·exact hop.elim
    ·rename_i d hd
     exact op_field ho ht hf hd hR hle hs hop
   ·exact hop.elim
  ·exact hop.elim
 | indexAddr t x i=>
  rw [ho] at hop
  simp only [opWp] at hop
  split at hop
  ·rename_i e ht
   rcases zik hop with ⟨_,hop⟩|⟨hb,hop⟩
   ·exact hop.elim
   ·exact op_indexS ho ht hR hle hs (zhu hb) hop
  ·rename_i n e ht
   rcases zik hop with ⟨_,hop⟩|⟨hb,hop⟩
   ·exact hop.elim
   ·exact op_indexA ho ht hR hle hs (zhu hb) hop
  ·exact hop.elim
 | index t x i=>
  rw [ho] at hop
  simp only [opWp] at hop
  split at hop
  ·rename_i ht;exact op_indexStr ho ht hR hle hs hop
  ·exact hop.elim
 | makeFunc fn first caps=>
  rw [ho] at hop
  cases fn with
  | func f=>exact op_makeFunc ho hR hle hs hop
  | method _|methodOf _ _|via _ _ _ _|yield _=>exact hop.elim
 | extract x i=>rw [ho] at hop;exact op_extract ho hR hle hs hop
 | range t x=>
  rw [ho] at hop
  simp only [opWp] at hop
  split at hop
  ·rename_i ht;exact op_range ho ht hR hle hs hop
  ·rename_i ht;exact op_rangeMap ho ht hR hle hs hop
  ·exact hop.elim
 | next x b=>
  rw [ho] at hop
  cases b with
  | true=>exact op_next ho hR hle hs hop
  | false=>exact op_nextMap ho hR hle hs hop
 | entry x=>rw [ho] at hop;exact op_entry ho hR hle hs hop
 | makeMap t r=>
  rw [ho] at hop
  cases r with
  | none=>
   simp only [opWp] at hop
   split at hop
   ·rename_i ht;exact op_makeMap ho ht hR hle hop
   ·exact hop.elim
  | some _=>exact hop.elim
 | lookup t x i ok=>
  rw [ho] at hop
  simp only [opWp] at hop
  split at hop
  ·rename_i ht;exact op_lookup ho ht hR hle hs hop
  ·exact hop.elim
 | mapUpdate t m k v=>
  rw [ho] at hop
  simp only [opWp] at hop
  split at hop
  ·rename_i ht;exact op_mapUpdate ho ht hR hle hs hop
  ·exact hop.elim
 | mapEntry t m k=>
  rw [ho] at hop
  simp only [opWp] at hop
  split at hop
  ·rename_i ht;exact op_mapEntry ho ht hR hle hs hop
  ·exact hop.elim
 | entryStore t m n v=>
  rw [ho] at hop
  simp only [opWp] at hop
  split at hop
  ·rename_i ht;exact op_entryStore ho ht hR hle hs hop
  ·exact hop.elim
 | call c=>
  rw [ho] at hop
  simp only [opWp] at hop
  split at hop
  ·rename_i f hc;exact op_call ho hc hR hle hs hop
  ·rename_i x _ hc;exact op_callv ho hc hR hle hs hop
  ·rename_i b hc;exact builtin_sound ho hc hR hle hs hop
  ·exact hop.elim
 | insert _ _ _ _|ready _|waits _|sliceToArrayPointer _ _|makeInterface _ _|makeChan _ _|typeAssert _ _ _ _|go _|defer _|panic _|send _ _|recv _ _ _|select _ _=>rw [ho] at hop;exact hop.elim
end
end Go.Ab
namespace Go.Ab
inductive Sh where
 | val (v:AVal)
 | heap (id:Nat) (b:Blk) (v:AVal)
 | many (id:Nat) (l:List (Blk×AVal))
 | new (b:Blk) (mk:Nat->AVal)
 | call (f:Nat) (args:List AVal)
 | fail
def Sh.run (C:CSem) (h:za) (K:zQ):Sh->Prop
 | .val v=>K v h
 | .heap id b v=>K v (upd h id b)
 | .many id l=> ∀ p∈l,K p.2 (upd h id p.1)
 | .new b mk=> ∀ id,h id=none->K (mk id) (upd h id b)
 | .call f args=>C f args h K
 | .fail=>False
namespace Sh
def pv:Option AVal->Sh
 | some v=> .val v
 | none=> .fail
def newO (o:Option (List AVal)) (mk:Nat->AVal):Sh:=
 match o with
 | some cs=> .new (zek cs) mk
 | none=> .fail
def st (h : za) (p : AVal) (f : List AVal -> Option (List AVal)) (n off : Nat) (v : AVal) : Sh :=
  match p with
  | .ptr id g o => match h id with
    | some b => match b.gens.lookup g with
      | some hi => bif b.own && Nat.ble (off + o + n) hi then (match f b.cells with
        | some cs => .heap id { b with cells := cs, gens := [(g, hi)] } v
        | none => .fail) else .fail
      | none => .fail
    | none => .fail
  | _ => .fail
def app (h:za) (es bytes:Nat) (x:AVal) (news:Option (List AVal)):Sh:=
 match news with
 | none=> .fail
 | some cs=>
  match x with
  | .nils=>if cs.length=0 then .val .nils else if (cs.length / es)*bytes <= 140737488355328 /\ (cs.length / es) <= maxLen then .new (zek cs) fun id=> .sl id 0 0 (cs.length / es) es (cs.length / es) else .fail
  | .sz=>if cs.length=0 then .val .sz else if (cs.length / es)*bytes <= 140737488355328 /\ (cs.length / es) <= maxLen then .new (zek cs) fun id=> .sl id 0 0 (cs.length / es) es (cs.length / es) else .fail
  | .sl id g off len es' cp=>match h id with
   | some b=>match b.gens.lookup g with
    | some hi=>bif b.own then (if es'=es /\ b.own=true /\ off+len*es <= hi /\ (len+cs.length / es)*bytes <= 140737488355328 /\ len+cs.length / es <= maxLen then
      .heap id (zhz b (off+len*es) cs) (.sl id b.next off (len+cs.length / es) es (len+cs.length / es)) else .fail)
     else (if es'=es /\ cp=0 /\ 0<len /\ 0<cs.length / es /\ off+len*es <= hi /\ hi <= b.cells.length /\ (len+cs.length / es)*bytes <= 140737488355328 /\ len+cs.length / es <= maxLen then
      .new (zek ((b.cells.drop off).take (len*es)++cs)) fun id=> .sl id 0 0 (len+cs.length / es) es (len+cs.length / es) else .fail)
    | none=> .fail
   | none=> .fail
  | _=> .fail
def cpy (h:za) (es:Nat) (x y:AVal):Sh:=
 match A.zgv y with
 | none=> .fail
 | some m=>
  match x with
  | .nils | .sz=> .val (.int .i64 0)
  | .sl id g off len _ _=>match A.rdv h y (min m len) es with
   | none=> .fail
   | some cs=>st h (.ptr id g off) (V.putN off (min m len*es) (.agg cs)) (min m len*es) 0 (.int .i64 (min m len:Nat))
  | _=> .fail
def mks (bytes:Nat) (z:Option (List AVal)) (l c:AVal):Sh:=
 match z,l,c with
 | some z,.int _ l,.int _ c=>if 0 <= l /\ l <= c /\ c*bytes <= 281474976710656 /\ c <= 9223372036854775807 then .new (zek (repL c.toNat z)) fun id=> .sl id 0 0 l.toNat z.length c.toNat else .fail
 | _,_,_=> .fail
def zfv (h:za) (x:AVal):Sh:=
 match A.zgv x with
 | some n=>(match A.rdv h x n 1 with
  | some cs=>(match V.zln cs with
   | some l=> .val (.str l)
   | none=> .fail)
  | none=> .fail)
 | none=> .fail
def appZ (es bytes:Nat) (z:Option (List AVal)) (x y:AVal):Sh:=
 match z,y with
 | some z,.int _ n=>if A.noRoom x=true /\ 0<n /\ n*(bytes:Int) <= 140737488355328 /\ n <= (maxLen:Int) then .new (zek (repL n.toNat z)) fun id=> .sl id 0 0 n.toNat es n.toNat else .fail
 | _,_=> .fail
def conv (h:za) (x:AVal):Sh:=
 match x with
 | .sl id g _ n _ _=>(match h id with
  | some b=>if (b.own&&((b.gens.lookup g).isSome&&Nat.blt 0 n))=true then .val x else .fail
  | none=> .fail)
 | _=> .fail
def ziu (x:AVal):Sh:=
 match x with
 | .str s=>if s.length <= 140737488355328 then .new (zek (s.map fun b=> .int .u8 b.toNat)) fun id=> .sl id 0 0 s.length 1 s.length else .fail
 | _=> .fail
def zjl (x:AVal):Sh:=
 match x with
 | .str s=> .new (zgq (.iter s 0)) fun id=> .ptr id 0 0
 | _=> .fail
def zhp (h:za) (x:AVal):Sh:=
 match x with
 | .ptr id 0 0=>(match h id with
  | some b=>(match b.obj with
   | some (.iter s pos)=>if pos<s.length then .heap id { b with obj:=some (.iter s (pos+(A.rune s pos).2)) } (.tup [.bool true,.int .i64 pos,.int .i32 (A.rune s pos).1])
     else .val (.tup [.bool false])
   | _=> .fail)
  | none=> .fail)
 | _=> .fail
def clr (h:za) (z:Option (List AVal)) (x:AVal):Sh:=
 match z with
 | none=> .fail
 | some z=>
  match x with
  | .nils | .sz=> .val (.tup [])
  | .sl id g off len es _=>if len=0 then .val (.tup []) else st h (.ptr id g off) (V.putN off (len*es) (.agg (List.replicate len z).flatten)) (len*es) 0 (.tup [])
  | _=> .fail
def objT (h:za) (x:AVal) (f:List (AVal×AVal×Nat)->Nat->Option (List (AVal×AVal×Nat)×Nat×AVal)) (g:AVal->AVal):Sh:=
 match x with
 | .mp id=>(match h id with
  | some b=>(match b.obj with
   | some (.map es c)=>(match f es c with
    | some (es',c',v)=> .heap id { b with obj:=some (.map es' c') } (g v)
    | none=> .fail)
   | _=> .fail)
  | none=> .fail)
 | _=> .fail
def mdel (h:za) (kd:Option KD) (x k:AVal):Sh:=
 match x with
 | .nilm=>if kd.isSome=true then .val (.tup []) else .fail
 | x=>objT h x (A.fdel kd k) fun v=>v
def rangeMap (h:za) (x:AVal):Sh:=
 match x with
 | .nilm=> .new (zgq (.mapIter none 0 [] 0)) fun id=> .ptr id 0 0
 | .mp m=>(match A.zlu h x with
  | some (_,c)=> .new (zgq (.mapIter (some m) c [] c)) fun id=> .ptr id 0 0
  | none=> .fail)
 | _=> .fail
def zfc (h:za) (x:AVal):Sh:=
 match A.steps h x with
 | some (id,l)=> .many id l
 | none=> .fail
def zf1 (f:AVal) (args:List AVal):Sh:=
 match f with
 | .fn f first caps=> .call f (first++args++caps)
 | .yld id=> .call zn4 (mkY id::args)
 | _=> .fail
def pick (c a b:AVal):Sh:=
 match c with
 | .bool c=> .val (bif c then a else b)
 | _=> .fail
def nilCheck (v:AVal):Sh:=
 match v with
 | .ptr _ _ _=> .val v
 | .fn _ _ _=> .val v
 | _=> .fail
end Sh
section
variable {C:CSem} {h:za} {K:zQ}
theorem zjh {o:Option AVal}:A.pv o (fun v=>K v h)↔(Sh.pv o).run C h K:=by
 cases o<;>exact Iff.rfl
theorem sh_newO {o:Option (List AVal)} {mk:Nat->AVal}:A.newO h o (fun id h=>K (mk id) h)↔(Sh.newO o mk).run C h K:=by
 cases o<;>exact Iff.rfl
theorem sh_pick {c a b:AVal}:A.pick c a b (fun v=>K v h)↔(Sh.pick c a b).run C h K:=by
 cases c<;>exact Iff.rfl
theorem sh_nilCheck {v:AVal}:A.nilCheck v (fun v=>K v h)↔(Sh.nilCheck v).run C h K:=by
 cases v<;>exact Iff.rfl
theorem sh_st {p:AVal} {f:List AVal->Option (List AVal)} {n off:Nat} {v:AVal}:A.ph (A.stv h p f n off) (fun h=>K v h)↔(Sh.st h p f n off v).run C h K:=by
 cases p<;>try exact Iff.rfl
 rename_i id g o
 simp only [A.stv,Sh.st]
 cases h id with
 | none=>exact Iff.rfl
 | some b=>
  simp only
  cases b.gens.lookup g with
  | none=>exact Iff.rfl
  | some hi=>
   simp only
   cases (b.own&&Nat.ble (off+o+n) hi) with
   | false=>exact Iff.rfl
   | true=>
    simp only [cond_true]
    cases f b.cells<;>exact Iff.rfl
theorem zhc {p:Prop} [Decidable p] {x:Sh} {q:Prop} (hq:q↔x.run C h K):(p /\ q)↔(if p then x else .fail).run C h K:=by
 by_cases hp:p
 ·rw [if_pos hp];exact ⟨fun ⟨_,k⟩=>hq.1 k,fun k=>⟨hp,hq.2 k⟩⟩
 ·rw [if_neg hp];exact ⟨fun ⟨k,_⟩=>hp k,fun k=>k.elim⟩
theorem sh_app {es bytes:Nat} {x:AVal} {news:Option (List AVal)}:A.app h es bytes x news K↔(Sh.app h es bytes x news).run C h K:=by
 cases news with
 | none=>exact Iff.rfl
 | some cs=>
  cases x<;>(try exact Iff.rfl)
  ·simp only [A.app,Sh.app]
   by_cases h0:cs.length=0
   ·rw [if_pos h0,if_pos h0];exact Iff.rfl
   ·rw [if_neg h0,if_neg h0, <- and_assoc];exact zhc Iff.rfl
  ·simp only [A.app,Sh.app]
   by_cases h0:cs.length=0
   ·rw [if_pos h0,if_pos h0];exact Iff.rfl
   ·rw [if_neg h0,if_neg h0, <- and_assoc];exact zhc Iff.rfl
  ·rename_i id g off len es' cp'
   simp only [A.app,Sh.app]
   cases h id with
   | none=>exact Iff.rfl
   | some b=>
    simp only
    cases b.gens.lookup g with
    | none=>exact Iff.rfl
    | some hi=>
     simp only
     cases b.own with
     | true=>
      simp only [cond_true]
      rw [show ∀ a b c d e f:Prop,(a /\ b /\ c /\ d /\ e /\ f)↔((a /\ b /\ c /\ d /\ e) /\ f) from fun a b c d e f=>by simp only [and_assoc]]
      exact zhc Iff.rfl
     | false=>
      simp only [cond_false]
      exact zhc Iff.rfl
theorem sh_cpy {es:Nat} {x y:AVal}:A.cpy h es x y K↔(Sh.cpy h es x y).run C h K:=by
 simp only [A.cpy,Sh.cpy]
 cases A.zgv y with
 | none=>exact Iff.rfl
 | some m=>
  cases x<;>(try exact Iff.rfl)
  simp only
  cases A.rdv h y _ es with
  | none=>exact Iff.rfl
  | some cs=>exact sh_st
theorem sh_mks {bytes:Nat} {z:Option (List AVal)} {l c:AVal}:A.mks h bytes z l c K↔(Sh.mks bytes z l c).run C h K:=by
 cases z<;>cases l<;>cases c<;>(try exact Iff.rfl)
 simp only [A.mks,Sh.mks]
 rw [show ∀ a b c d f:Prop,(a /\ b /\ c /\ d /\ f)↔((a /\ b /\ c /\ d) /\ f) from fun a b c d f=>by simp only [and_assoc]]
 exact zhc Iff.rfl
theorem sh_bytesStr {x:AVal}:A.zfv h x (fun v=>K v h)↔(Sh.zfv h x).run C h K:=by
 simp only [A.zfv,Sh.zfv]
 cases A.zgv x with
 | none=>exact Iff.rfl
 | some n=>
  simp only
  cases A.rdv h x n 1 with
  | none=>exact Iff.rfl
  | some cs=>
   simp only
   cases V.zln cs<;>exact Iff.rfl
theorem sh_appZ {es bytes:Nat} {z:Option (List AVal)} {x y:AVal}:A.appZ h es bytes z x y K↔(Sh.appZ es bytes z x y).run C h K:=by
 cases z<;>cases y<;>(try exact Iff.rfl)
 simp only [A.appZ,Sh.appZ]
 exact zhc Iff.rfl
theorem sh_conv {x:AVal}:A.conv h x (fun v=>K v h)↔(Sh.conv h x).run C h K:=by
 cases x<;>(try exact Iff.rfl)
 rename_i id g off n es cp
 simp only [A.conv,Sh.conv]
 cases h id with
 | none=>exact Iff.rfl
 | some b=>exact zhc Iff.rfl
theorem sh_strBytes {x:AVal}:A.ziu h x K↔(Sh.ziu x).run C h K:=by
 cases x<;>(try exact Iff.rfl)
 simp only [A.ziu,Sh.ziu]
 exact zhc Iff.rfl
theorem sh_rangeStr {x:AVal}:A.zjl h x K↔(Sh.zjl x).run C h K:=by
 cases x<;>exact Iff.rfl
theorem sh_nextStr {x:AVal}:A.zhp h x K↔(Sh.zhp h x).run C h K:=by
 cases x<;>(try exact Iff.rfl)
 rename_i id g off
 cases g with
 | succ _=>exact Iff.rfl
 | zero=>
  cases off with
  | succ _=>exact Iff.rfl
  | zero=>
   simp only [A.zhp,Sh.zhp]
   cases h id with
   | none=>exact Iff.rfl
   | some b=>
    simp only
    cases b.obj with
    | none=>exact Iff.rfl
    | some o=>
     cases o with
     | iter s pos=>
      simp only
      by_cases hp:pos<s.length
      ·rw [if_pos hp,if_pos hp];exact Iff.rfl
      ·rw [if_neg hp,if_neg hp];exact Iff.rfl
     | map _ _=>exact Iff.rfl
     | mapIter _ _ _ _=>exact Iff.rfl
     | loop _ _ _ _ _ _=>exact Iff.rfl
     | dfr _=>exact Iff.rfl
     | gone=>exact Iff.rfl
theorem sh_clr {z:Option (List AVal)} {x:AVal}:A.clr h z x K↔(Sh.clr h z x).run C h K:=by
 cases z with
 | none=>exact Iff.rfl
 | some z=>
  cases x<;>(try exact Iff.rfl)
  simp only [A.clr,Sh.clr]
  split
  ·exact Iff.rfl
  ·exact sh_st
theorem sh_objT {x:AVal} {f:List (AVal×AVal×Nat)->Nat->Option (List (AVal×AVal×Nat)×Nat×AVal)} {g:AVal->AVal}:A.objT h x f (fun v h=>K (g v) h)↔(Sh.objT h x f g).run C h K:=by
 cases x<;>(try exact Iff.rfl)
 rename_i id
 simp only [A.objT,Sh.objT]
 cases h id with
 | none=>exact Iff.rfl
 | some b=>
  simp only
  cases b.obj with
  | none=>exact Iff.rfl
  | some o=>
   cases o with
   | iter _ _=>exact Iff.rfl
   | mapIter _ _ _ _=>exact Iff.rfl
   | loop _ _ _ _ _ _=>exact Iff.rfl
   | dfr _=>exact Iff.rfl
   | gone=>exact Iff.rfl
   | map es c=>
    simp only
    cases f es c with
    | none=>exact Iff.rfl
    | some r=>obtain ⟨_,_,_⟩:=r;exact Iff.rfl
theorem sh_mdel {kd:Option KD} {x k:AVal}:A.mdel h kd x k K↔(Sh.mdel h kd x k).run C h K:=by
 cases x<;>(try exact Iff.rfl)
 ·exact zhc Iff.rfl
 ·rename_i i
  show A.objT h (.mp i) (A.fdel kd k) K↔(Sh.objT h (.mp i) (A.fdel kd k) fun v=>v).run C h K
  exact sh_objT (g:=fun v=>v)
theorem sh_rangeMap {x:AVal}:A.rangeMap h x K↔(Sh.rangeMap h x).run C h K:=by
 cases x<;>(try exact Iff.rfl)
 rename_i id
 simp only [A.rangeMap,Sh.rangeMap]
 cases A.zlu h (.mp id) with
 | none=>exact Iff.rfl
 | some r=>exact Iff.rfl
theorem sh_nextMap {x:AVal}:A.zfc h x K↔(Sh.zfc h x).run C h K:=by
 simp only [A.zfc,Sh.zfc]
 cases A.steps h x with
 | none=>exact Iff.rfl
 | some r=>exact Iff.rfl
theorem sh_callv {f:AVal} {args:List AVal}:A.zf1 h C f args K↔(Sh.zf1 f args).run C h K:=by
 cases f<;>exact Iff.rfl
theorem zjc {b:Bool} {p q:Prop} {x y:Sh} (h1:p↔x.run C h K) (h2:q↔y.run C h K):(bif b then p else q)↔(bif b then x else y).run C h K:=by
 cases b
 ·exact h2
 ·exact h1
end
def zfh (P:Program) (b:Builtin) (at_:List TypeId) (args:List AVal) (h:za):Sh:=
 match b,at_,args with
 | .len,t::_,[x]=>match P.underlying t with
  | some .string=>Sh.pv (V.zj5 x)
  | some (.slice _)=>Sh.pv (V.zcw x)
  | some (.array n _)=> .val (.int .i64 n)
  | some (.map _ _)=>Sh.pv (A.zp2 h x)
  | _=> .fail
 | .clear,[t],[x]=>match P.underlying t with
  | some (.slice e)=>if 0<P.cellsOf e then Sh.clr h (zeroOf P e) x else .fail
  | _=> .fail
 | .delete,t::_,[x,k]=>match P.underlying t with
  | some (.map kt _)=>Sh.mdel h (zhr P kt) x k
  | _=> .fail
 | .append,[t,u],[x,y]=>match P.underlying t,P.underlying u with
  | some (.slice e),some (.slice _)=>if 0<P.cellsOf e /\ t=u /\ (zeroOf P e).isSome=true then (match A.zgv y with
   | some n=>Sh.app h (P.cellsOf e) (P.bytesOf e) x (A.rdv h y n (P.cellsOf e))
   | none=> .fail) else .fail
  | some (.slice e),some .string=>if isU8 P e=true /\ (zeroOf P e).isSome=true then Sh.app h 1 (P.bytesOf e) x (A.strCells y) else .fail
  | some (.slice e),some (.int _)=>if 0<P.cellsOf e then Sh.appZ (P.cellsOf e) (P.bytesOf e) (zeroOf P e) x y else .fail
  | _,_=> .fail
 | .copy,[t,u],[x,y]=>match P.underlying t with
  | some (.slice e)=>if t=u /\ 0<P.cellsOf e then Sh.cpy h (P.cellsOf e) x y else .fail
  | _=> .fail
 | .min,_,[x,y]=>Sh.pv (V.min2 x y)
 | .max,_,[x,y]=>Sh.pv (V.max2 x y)
 | .cap,t::_,[x]=>match P.underlying t with
  | some (.slice _)=>Sh.pv (V.capSl x)
  | _=> .fail
 | _,_,_=> .fail
def shOf (P : Program) (op : Op) (ρ : Operand -> AVal) (h : za) : Sh :=
  match op with
  | .move x | .assign x => .val (ρ x)
  | .pick c a b => Sh.pick (ρ c) (ρ a) (ρ b)
  | .alloc t => Sh.newO (zeroOf P t) fun id => .ptr id 0 0
  | .box t x => Sh.newO (bif zd1 P t then A.znh (P.cellsOf t) (ρ x) else A.zrh (ρ x)) fun id => .ptr id 0 0
  | .build t parts => Sh.pv (match zeroOf P t, placesOf P t (parts.toList.map fun p => (p.1, ρ p.2)) with
      | some z, some ps => (match zei ps z with | some cs => some (.agg cs) | none => none)
      | _, _ => none)
  | .buildSlice t len parts => match zk6 P t with
    | some e => if len = 0 then (match parts.toList, partOf P e with | [], some _ => .val .sz | _, _ => .fail) else
        Sh.newO (match zeroOf P e, partOf P e with
          | some z, some pz => bif Nat.ble (len * P.cellsOf e) 16777216 && Nat.ble 1 (P.cellsOf e) then zei (zpl (P.cellsOf e) pz (parts.toList.map fun p => (p.1, ρ p.2))) (repL len z) else none
          | _, _ => none) fun id => .sl id 0 0 len (P.cellsOf e) len
    | none => .fail
  | .load t x => match P.underlying t with
    | none => .fail
    | some _ => bif zd1 P t then Sh.pv (A.ldnv h (ρ x) (P.cellsOf t)) else Sh.pv (A.ldv h (ρ x))
  | .store t x v => bif zd1 P t then Sh.st h (ρ x) (V.putN (A.zn9 (ρ x)) (P.cellsOf t) (ρ v)) (P.cellsOf t) 0 .undef
      else bif Nat.beq (P.cellsOf t) 1 then Sh.st h (ρ x) (V.put1 (A.zn9 (ρ x)) (ρ v)) 1 0 .undef else .fail
  | .nilCheck x => Sh.nilCheck (ρ x)
  | .binOp op t x y _ => match P.underlying t with
    | some (.int _) | some .string => Sh.pv (V.bin op (ρ x) (ρ y))
    | some .bool => Sh.pv (V.zrb op (ρ x) (ρ y))
    | some (.pointer _) => Sh.pv (V.eqPtr op (ρ x) (ρ y))
    | some (.slice _) => Sh.pv (V.eqSl op (ρ x) (ρ y))
    | some (.func ..) => Sh.pv (V.eqFn op (ρ x) (ρ y))
    | some (.map _ _) => Sh.pv (V.eqMap op (ρ x) (ρ y))
    | some (.struct _) => (match zpi P t with
      | some sh => Sh.pv (V.binAgg op sh (ρ x) (ρ y))
      | none => .fail)
    | _ => .fail
  | .unOp op _ x => Sh.pv (V.un op (ρ x))
  | .convert src dst x => match P.underlying src, P.underlying dst with
    | some (.int _), some (.int k) => Sh.pv (V.toInt k (ρ x))
    | some .string, some .string => Sh.pv (V.strStr (ρ x))
    | some (.slice e), some .string => bif isU8 P e then Sh.zfv h (ρ x) else .fail
    | some .string, some (.slice e) => bif isU8 P e then Sh.ziu (ρ x) else .fail
    | some (.slice e), some (.slice _) => bif Nat.beq src dst && isU8 P e then Sh.conv h (ρ x) else .fail
    | _, _ => .fail
  | .range t x => match P.underlying t with
    | some .string => Sh.zjl (ρ x)
    | some (.map _ _) => Sh.rangeMap h (ρ x)
    | _ => .fail
  | .next x true => Sh.zhp h (ρ x)
  | .next x false => Sh.zfc h (ρ x)
  | .entry x => Sh.pv (A.zgr h (ρ x))
  | .makeMap t none => match P.underlying t with
    | some (.map _ _) => .new (zgq (.map [] 0)) fun id => .mp id
    | _ => .fail
  | .lookup t x i ok => match P.underlying t with
    | some (.map kt e) => Sh.pv (A.lkp h (zhr P kt) (zeroV P e) ok (ρ x) (ρ i))
    | _ => .fail
  | .mapUpdate t m k v => match P.underlying t with
    | some (.map kt _) => Sh.objT h (ρ m) (A.fset (zhr P kt) (ρ k) (ρ v)) fun _ => .undef
    | _ => .fail
  | .mapEntry t m k => match P.underlying t with
    | some (.map kt e) => Sh.objT h (ρ m) (A.fentry (zhr P kt) (zeroV P e) (ρ k)) fun v => v
    | _ => .fail
  | .entryStore t m n v => match P.underlying t with
    | some (.map _ _) => Sh.objT h (ρ m) (A.fstore (ρ n) (ρ v)) fun _ => .undef
    | _ => .fail
  | .makeSlice t l c => match zk6 P t with
    | some e => if 0 < P.cellsOf e then Sh.mks (P.bytesOf e) (zeroOf P e) (ρ l) (ρ c) else .fail
    | none => .fail
  | .slice t x lo hi mx => match P.underlying t, mx with
    | some .string, none => Sh.pv (V.cutStr (ρ x) (lo.map ρ) (hi.map ρ))
    | some (.slice e), none => bif Nat.beq (P.cellsOf e) 0 then .fail else Sh.pv (V.zh2 (P.cellsOf e) (ρ x) (lo.map ρ) (hi.map ρ))
    | some (.slice e), some mx => bif Nat.beq (P.cellsOf e) 0 then .fail else (match lo, hi with
      | some lo, some hi => Sh.pv (V.cut3 (P.cellsOf e) (ρ x) (ρ lo) (ρ hi) (ρ mx))
      | none, some hi => Sh.pv (V.cut3 (P.cellsOf e) (ρ x) (.int .i64 0) (ρ hi) (ρ mx))
      | _, _ => .fail)
    | _, _ => .fail
  | .fieldAddr t x f => match P.underlying t with
    | some (.struct fs) => (match fs[f]? with
      | some fd => bif Nat.beq (P.cellsOf fd.type) 0 then .fail else Sh.pv (V.fieldAddr fd.offset (ρ x))
      | none => .fail)
    | _ => .fail
  | .field t x f => match P.underlying t with
    | some (.struct fs) => (match fs[f]? with
      | some fd => (match P.underlying fd.type with
        | none => .fail
        | some _ => bif zd1 P fd.type then Sh.pv (V.zfg fd.offset (P.cellsOf fd.type) (ρ x)) else Sh.pv (V.zd8 fd.offset (ρ x)))
      | none => .fail)
    | _ => .fail
  | .indexAddr t x i => match P.underlying t with
    | some (.slice e) => bif Nat.beq (P.cellsOf e) 0 then .fail else Sh.pv (V.idxS (P.cellsOf e) (ρ x) (ρ i))
    | some (.array n e) => bif Nat.beq (P.cellsOf e) 0 then .fail else Sh.pv (V.idxA n (P.cellsOf e) (ρ x) (ρ i))
    | _ => .fail
  | .index t x i => match P.underlying t with
    | some .string => Sh.pv (V.zm8 (ρ x) (ρ i))
    | _ => .fail
  | .makeFunc (.func f) first caps => .val (.fn f (first.toList.map ρ) (caps.toList.map ρ))
  | .extract x i => Sh.pv (V.ext i (ρ x))
  | .call c => match c.callee with
    | .value (.func f) => .call f (c.args.toList.map ρ)
    | .value x => Sh.zf1 (ρ x) (c.args.toList.map ρ)
    | .builtin b => zfh P b c.argTypes.toList (c.args.toList.map ρ) h
    | .invoke _ _ => .fail
  | _ => .fail
section
variable {P:Program} {C:CSem} {h:za} {K:zQ} {s:zcf}
theorem okA {a t u:Nat} {b:Bool}:(Nat.blt 0 a&&(Nat.beq t u&&b))=true↔0<a /\ t=u /\ b=true:=by
 rw [Bool.and_eq_true,Bool.and_eq_true,Nat.blt_eq,Nat.beq_eq]
theorem okC {a t u:Nat}:(Nat.beq t u&&Nat.blt 0 a)=true↔t=u /\ 0<a:=by
 rw [Bool.and_eq_true,Nat.blt_eq,Nat.beq_eq]
theorem builtinWp_sh {b:Builtin} {at_:List TypeId} {args:List AVal}:zk7 P b at_ args h K↔(zfh P b at_ args h).run C h K:=by
 unfold zk7
 split
 ·rename_i t _ x
  simp only [zfh]
  cases P.underlying t with
  | none=>exact Iff.rfl
  | some d=>cases d<;>first|exact Iff.rfl|exact zjh
 ·rename_i t x
  simp only [zfh]
  cases P.underlying t with
  | none=>exact Iff.rfl
  | some d=>
   cases d<;>(try exact Iff.rfl)
   simp only
   rw [A.zl1,Nat.blt_eq]
   exact zhc sh_clr
 ·rename_i t _ x k
  simp only [zfh]
  cases P.underlying t with
  | none=>exact Iff.rfl
  | some d=>cases d<;>first|exact Iff.rfl|exact sh_mdel
 ·rename_i t u x y
  simp only [zfh]
  cases P.underlying t with
  | none=>exact Iff.rfl
  | some d=>
   cases P.underlying u with
   | none=>cases d<;>exact Iff.rfl
   | some d'=>
    cases d<;>(try exact Iff.rfl)
    cases d'<;>(try exact Iff.rfl)
    ·simp only
     rw [A.zl1,Nat.blt_eq]
     exact zhc sh_appZ
    ·simp only
     rw [A.zl1,Bool.and_eq_true]
     exact zhc sh_app
    ·simp only
     rw [A.zl1,okA]
     refine zhc ?_
     unfold A.appW
     cases A.zgv y with
     | none=>exact Iff.rfl
     | some n=>exact sh_app
 ·rename_i t u x y
  simp only [zfh]
  cases P.underlying t with
  | none=>exact Iff.rfl
  | some d=>
   cases d<;>(try exact Iff.rfl)
   simp only
   rw [A.zl1,okC]
   exact zhc sh_cpy
 ·exact zjh
 ·exact zjh
 ·rename_i t _ x
  simp only [zfh]
  cases P.underlying t with
  | none=>exact Iff.rfl
  | some d=>cases d<;>first|exact Iff.rfl|exact zjh
 ·rename_i h1 h2 h3 h4 h5 h6 h7 h8
  have:zfh P b at_ args h= .fail:=by
   unfold zfh
   split<;>simp_all<;>(exfalso;first|exact h6 _ _ _ _ rfl rfl rfl rfl|exact h7 _ _ _ _ rfl rfl rfl rfl|exact h5 _ _ _ _ rfl rfl rfl rfl|exact h8 _ _ _ _ rfl rfl rfl rfl)
  rw [this];exact Iff.rfl
theorem zkh {op:Op}:opWp P C op s h K↔(shOf P op (evS s) h).run C h K:=by
 cases op with
 | move x=>exact Iff.rfl
 | assign x=>exact Iff.rfl
 | pick c a b=>exact sh_pick
 | alloc t=>exact sh_newO
 | box t x=>exact sh_newO
 | build t ps=>exact zjh
 | buildSlice t n ps=>
  simp only [opWp,shOf]
  cases zk6 P t with
  | none=>exact Iff.rfl
  | some e=>
   simp only
   by_cases h0:n=0
   ·rw [if_pos h0,if_pos h0]
    cases ps.toList<;>cases partOf P e<;>exact Iff.rfl
   ·rw [if_neg h0,if_neg h0];exact sh_newO
 | load t x=>
  simp only [opWp,shOf]
  cases P.underlying t with
  | none=>exact Iff.rfl
  | some d=>exact zjc zjh zjh
 | store t x v=>exact zjc sh_st (zjc sh_st Iff.rfl)
 | nilCheck x=>exact sh_nilCheck
 | binOp op t x y u=>
  simp only [opWp,shOf]
  cases P.underlying t with
  | none=>exact Iff.rfl
  | some d=>
   cases d<;>(try exact Iff.rfl)<;>(try exact zjh)
   simp only
   cases zpi P t with
   | none=>exact Iff.rfl
   | some sh=>exact zjh
 | unOp op t x=>exact zjh
 | convert src dst x=>
  simp only [opWp,shOf]
  cases P.underlying src with
  | none=>exact Iff.rfl
  | some d=>
   cases P.underlying dst with
   | none=>cases d<;>exact Iff.rfl
   | some d'=>
    cases d<;>(try exact Iff.rfl)<;>cases d'<;>(try exact Iff.rfl)<;>(try exact zjh)
    ·exact zjc sh_strBytes Iff.rfl
    ·exact zjc sh_bytesStr Iff.rfl
    ·exact zjc sh_conv Iff.rfl
 | makeSlice t l c=>
  simp only [opWp,shOf]
  cases zk6 P t with
  | none=>exact Iff.rfl
  | some e=>exact zhc sh_mks
 | slice t x lo hi mx=>
  simp only [opWp,shOf]
  cases P.underlying t with
  | none=>cases mx<;>exact Iff.rfl
  | some d=>
   cases mx with
   | none=>
    cases d<;>(try exact Iff.rfl)<;>(try exact zjh)
    exact zjc Iff.rfl zjh
   | some mx=>
    cases d<;>(try exact Iff.rfl)
    refine zjc Iff.rfl ?_
    cases lo<;>cases hi<;>first|exact Iff.rfl|exact zjh
 | fieldAddr t x f=>
  simp only [opWp,shOf]
  cases P.underlying t with
  | none=>exact Iff.rfl
  | some d=>
   cases d<;>(try exact Iff.rfl)
   rename_i fs
   simp only
   cases fs[f]? with
   | some fd=>exact zjc Iff.rfl zjh
   | none=>exact Iff.rfl
 | field t x f=>
  simp only [opWp,shOf]
  cases P.underlying t with
  | none=>exact Iff.rfl
  | some d=>
   cases d<;>(try exact Iff.rfl)
   rename_i fs
   simp only
   cases fs[f]? with
   | some fd=>
    simp only
    cases P.underlying fd.type with
    | none=>exact Iff.rfl
    | some d=>exact zjc zjh zjh
   | none=>exact Iff.rfl
 | indexAddr t x i=>
  simp only [opWp,shOf]
  cases P.underlying t with
  | none=>exact Iff.rfl
  | some d=>cases d<;>(try exact Iff.rfl)<;>exact zjc Iff.rfl zjh
 | index t x i=>
  simp only [opWp,shOf]
  cases P.underlying t with
  | none=>exact Iff.rfl
  | some d=>cases d<;>(try exact Iff.rfl)<;>exact zjh
 | makeFunc fn first caps=>cases fn<;>exact Iff.rfl
 | extract x i=>exact zjh
 | range t x=>
  simp only [opWp,shOf]
  cases P.underlying t with
  | none=>exact Iff.rfl
  | some d=>cases d<;>(try exact Iff.rfl)<;>first|exact sh_rangeStr|exact sh_rangeMap
 | next x b=>
  cases b with
  | false=>exact sh_nextMap
  | true=>exact sh_nextStr
 | entry x=>exact zjh
 | makeMap t r=>
  cases r with
  | some _=>exact Iff.rfl
  | none=>
   simp only [opWp,shOf]
   cases P.underlying t with
   | none=>exact Iff.rfl
   | some d=>cases d<;>exact Iff.rfl
 | lookup t x i ok=>
  simp only [opWp,shOf]
  cases P.underlying t with
  | none=>exact Iff.rfl
  | some d=>cases d<;>first|exact Iff.rfl|exact zjh
 | mapUpdate t m k v=>
  simp only [opWp,shOf]
  cases P.underlying t with
  | none=>exact Iff.rfl
  | some d=>cases d<;>(try exact Iff.rfl);exact sh_objT (g:=fun _=> .undef)
 | mapEntry t m k=>
  simp only [opWp,shOf]
  cases P.underlying t with
  | none=>exact Iff.rfl
  | some d=>cases d<;>(try exact Iff.rfl);exact sh_objT (g:=fun v=>v)
 | entryStore t m n v=>
  simp only [opWp,shOf]
  cases P.underlying t with
  | none=>exact Iff.rfl
  | some d=>cases d<;>(try exact Iff.rfl);exact sh_objT (g:=fun _=> .undef)
 | call c=>
  simp only [opWp,shOf]
  cases c.callee with
  | value f=>cases f<;>first|exact Iff.rfl|exact sh_callv
  | invoke _ _=>exact Iff.rfl
  | builtin b=>exact builtinWp_sh
 | insert _ _ _ _|ready _|waits _|sliceToArrayPointer _ _|makeInterface _ _|makeChan _ _|typeAssert _ _ _ _|go _|defer _|panic _|send _ _|recv _ _ _|select _ _=>exact Iff.rfl
theorem zgf (hC: ∀ f args h (Q Q':zQ),(∀ v h,Q v h->Q' v h)->C f args h Q->C f args h Q') {K':zQ} (hk: ∀ v h,K v h->K' v h) {x:Sh} (hx:x.run C h K):x.run C h K':=by
 cases x with
 | val v=>exact hk _ _ hx
 | heap id b v=>exact hk _ _ hx
 | many id l=>exact fun p hp=>hk _ _ (hx p hp)
 | new b mk=>exact fun id hid=>hk _ _ (hx id hid)
 | call f args=>exact hC _ _ _ _ _ hk hx
 | fail=>exact hx
end
section
variable {P:Program} {h H:za} {ρ ρ':Operand->AVal}
theorem zpn {ps:Array (Nat×Operand)} (h: ∀ x∈(ps.toList.map (·.2)).toArray,ρ x=ρ' x):(ps.toList.map fun p=>(p.1,ρ p.2))=ps.toList.map fun p=>(p.1,ρ' p.2):=
 List.map_congr_left fun p hp=>by rw [h p.2 (by simp only [List.mem_toArray,List.mem_map];exact ⟨p,hp,rfl⟩)]
theorem zn2 {xs:Array Operand} (h: ∀ x∈xs,ρ x=ρ' x):xs.toList.map ρ=xs.toList.map ρ':=
 List.map_congr_left fun x hx=>h x (by simpa using hx)
theorem zjy {op:Op} (hop: ∀ x∈op.operands,ρ x=ρ' x):shOf P op ρ h=shOf P op ρ' h:=by
 cases op<;>simp only [Op.operands] at hop<;>simp only [shOf]
 case build t ps=>rw [zpn hop]
 case buildSlice t n ps=>rw [zpn hop]
 case makeFunc fn first caps=>
  cases fn<;>simp only
  rw [zn2 fun x hx=>hop x (by simp [hx]),zn2 fun x hx=>hop x (by simp [hx])]
 case call c=>
  have ha:c.args.toList.map ρ=c.args.toList.map ρ':=zn2 fun x hx=>hop x (by simp [Call.operands,hx])
  rw [ha]
  cases hc:c.callee with
  | value f=>
   have hf:ρ f=ρ' f:=hop f (by simp [Call.operands,hc])
   cases f<;>simp only [hf]
  | invoke r m=>rfl
  | builtin b=>rfl
 case next x b=>cases b<;>simp_all
 case makeMap t r=>cases r<;>rfl
 case slice t x lo hi mx=>cases lo<;>cases hi<;>cases mx<;>simp_all<;>(cases hu:P.underlying t with|none=>rfl|some d=>cases d<;>simp_all)
 all_goals (first|rfl|(simp_all;done))
theorem zk1 (hle:h.le H) {p v:AVal} (hv:A.ldv h p=some v):A.ldv H p=some v:=by
 unfold A.ldv at hv ⊢
 split at hv<;>(try (cases hv;done))
 split at hv<;>(try (cases hv;done))
 rename_i b hb
 rw [hle _ b hb]
 exact hv
theorem ldnv_le (hle:h.le H) {p v:AVal} {n:Nat} (hv:A.ldnv h p n=some v):A.ldnv H p n=some v:=by
 unfold A.ldnv at hv ⊢
 split at hv<;>(try (cases hv;done))
 split at hv<;>(try (cases hv;done))
 rename_i b hb
 rw [hle _ b hb]
 exact hv
theorem rdv_le (hle:h.le H) {p:AVal} {n es:Nat} {cs:List AVal} (hv:A.rdv h p n es=some cs):A.rdv H p n es=some cs:=by
 unfold A.rdv at hv ⊢
 split at hv
 ·exact hv
 ·exact hv
 ·split at hv<;>(try (cases hv;done))
  rename_i b hb
  rw [hle _ b hb]
  exact hv
 ·cases hv
theorem st_le (hle:h.le H) {p v:AVal} {f:List AVal->Option (List AVal)} {n off:Nat} (hx:Sh.st h p f n off v≠ .fail):Sh.st H p f n off v=Sh.st h p f n off v:=by
 unfold Sh.st at hx ⊢
 split
 ·rename_i id g o
  cases hb:h id with
  | none=>simp [hb] at hx
  | some b=>rw [hle _ b hb]
 ·rfl
theorem app_le (hle:h.le H) {es bytes:Nat} {x:AVal} {news:Option (List AVal)} (hx:Sh.app h es bytes x news≠ .fail):Sh.app H es bytes x news=Sh.app h es bytes x news:=by
 unfold Sh.app at hx ⊢
 cases news with
 | none=>rfl
 | some cs=>
  cases x<;>(try rfl)
  rename_i id g off len es' cp'
  cases hb:h id with
  | none=>simp [hb] at hx
  | some b=>
   have hB:=hle _ b hb
   simp only [hB,hb]
theorem cpy_le (hle:h.le H) {es:Nat} {x y:AVal} (hx:Sh.cpy h es x y≠ .fail):Sh.cpy H es x y=Sh.cpy h es x y:=by
 unfold Sh.cpy at hx ⊢
 cases hm:A.zgv y with
 | none=>rfl
 | some m=>
  simp only [hm] at hx
  cases x<;>(try rfl)
  simp only at hx ⊢
  rename_i id g off len es' cp'
  cases hr:A.rdv h y (min m len) es with
  | none=>simp [hr] at hx
  | some cs=>
   simp only [hr] at hx
   rw [rdv_le hle hr]
   exact st_le hle hx
theorem bytesStr_le (hle:h.le H) {x:AVal} (hx:Sh.zfv h x≠ .fail):Sh.zfv H x=Sh.zfv h x:=by
 unfold Sh.zfv at hx ⊢
 cases hm:A.zgv x with
 | none=>rfl
 | some m=>
  simp only [hm] at hx ⊢
  cases hr:A.rdv h x m 1 with
  | none=>simp [hr] at hx
  | some cs=>rw [rdv_le hle hr]
theorem conv_le (hle:h.le H) {x:AVal} (hx:Sh.conv h x≠ .fail):Sh.conv H x=Sh.conv h x:=by
 unfold Sh.conv at hx ⊢
 split
 ·rename_i id g off n es cp
  cases hb:h id with
  | none=>simp [hb] at hx
  | some b=>rw [hle _ b hb]
 ·rfl
theorem conv_val (h:za) (x:AVal):Sh.conv h x= .val x \/ Sh.conv h x= .fail:=by
 unfold Sh.conv
 split
 ·split
  ·split
   ·exact .inl rfl
   ·exact .inr rfl
  ·exact .inr rfl
 ·exact .inr rfl
theorem bytesStr_val (h:za) (x:AVal):(∃ v,Sh.zfv h x= .val v) \/ Sh.zfv h x= .fail:=by
 unfold Sh.zfv
 split
 ·split
  ·split
   ·exact .inl ⟨_,rfl⟩
   ·exact .inr rfl
  ·exact .inr rfl
 ·exact .inr rfl
theorem nextStr_le (hle:h.le H) {x:AVal} (hx:Sh.zhp h x≠ .fail):Sh.zhp H x=Sh.zhp h x:=by
 unfold Sh.zhp at hx ⊢
 split
 ·rename_i id
  cases hb:h id with
  | none=>simp [hb] at hx
  | some b=>rw [hle _ b hb]
 ·rfl
theorem zov (hle:h.le H) {x:AVal} {r:List (AVal×AVal×Nat)×Nat} (hx:A.zlu h x=some r):A.zlu H x=some r:=by
 unfold A.zlu at hx ⊢
 split at hx<;>(try (cases hx;done))
 split at hx<;>(try (cases hx;done))
 rename_i b hb
 rw [hle _ b hb]
 exact hx
theorem zrc (hle:h.le H) {x:AVal} {r:List (AVal×AVal×Nat)} (hx:A.entries h x=some r):A.entries H x=some r:=by
 unfold A.entries at hx ⊢
 split at hx
 ·exact hx
 ·rename_i hne
  split at hx<;>(try (cases hx;done))
  rename_i es c hm
  rw [zov hle hm]
  cases x<;>first|exact hx|exact absurd rfl hne
theorem lkp_le (hle:h.le H) {kd:Option KD} {z:Option AVal} {ok:Bool} {x k v:AVal} (hx:A.lkp h kd z ok x k=some v):A.lkp H kd z ok x k=some v:=by
 unfold A.lkp at hx ⊢
 cases kd with
 | none=>cases hx
 | some kd=>
  cases z with
  | none=>cases hx
  | some z=>
   cases he:A.entries h x with
   | none=>rw [he] at hx;cases hx
   | some es=>rw [he] at hx;rw [zrc hle he];exact hx
theorem mapLen_le (hle:h.le H) {x v:AVal} (hx:A.zp2 h x=some v):A.zp2 H x=some v:=by
 unfold A.zp2 at hx ⊢
 cases he:A.entries h x with
 | none=>rw [he] at hx;cases hx
 | some es=>rw [he] at hx;rw [zrc hle he];exact hx
theorem entryAt_le (hle:h.le H) {x v:AVal} (hx:A.zgr h x=some v):A.zgr H x=some v:=by
 unfold A.zgr at hx ⊢
 split at hx<;>(try (cases hx;done))
 split at hx<;>(try (cases hx;done))
 rename_i b hb
 rw [hle _ b hb]
 simp only
 split at hx<;>(try (cases hx;done))
 rename_i m _ seen last ho
 cases hm:A.zlu h (.mp m) with
 | none=>rw [hm] at hx;cases hx
 | some r=>rw [hm] at hx;rw [zov hle hm];exact hx
theorem clr_le (hle:h.le H) {z:Option (List AVal)} {x:AVal} (hx:Sh.clr h z x≠ .fail):Sh.clr H z x=Sh.clr h z x:=by
 unfold Sh.clr at hx ⊢
 cases z with
 | none=>rfl
 | some z=>
  cases x<;>(try rfl)
  simp only at hx ⊢
  split
  ·rfl
  ·rename_i h0
   rw [if_neg h0] at hx
   exact st_le hle hx
theorem objT_le (hle:h.le H) {x:AVal} {f:List (AVal×AVal×Nat)->Nat->Option (List (AVal×AVal×Nat)×Nat×AVal)} {g:AVal->AVal} (hx:Sh.objT h x f g≠ .fail):Sh.objT H x f g=Sh.objT h x f g:=by
 unfold Sh.objT at hx ⊢
 cases x<;>(try rfl)
 rename_i id
 simp only at hx ⊢
 cases hb:h id with
 | none=>simp [hb] at hx
 | some b=>rw [hle _ b hb]
theorem mdel_le (hle:h.le H) {kd:Option KD} {x k:AVal} (hx:Sh.mdel h kd x k≠ .fail):Sh.mdel H kd x k=Sh.mdel h kd x k:=by
 unfold Sh.mdel at hx ⊢
 cases x<;>first|rfl|exact objT_le hle hx
theorem rangeMap_le (hle:h.le H) {x:AVal} (hx:Sh.rangeMap h x≠ .fail):Sh.rangeMap H x=Sh.rangeMap h x:=by
 unfold Sh.rangeMap at hx ⊢
 cases x<;>(try rfl)
 rename_i id
 simp only at hx ⊢
 cases hm:A.zlu h (.mp id) with
 | none=>rw [hm] at hx;exact absurd rfl hx
 | some r=>rw [zov hle hm]
theorem steps_le (hle:h.le H) {x:AVal} {r:Nat×List (Blk×AVal)} (hx:A.steps h x=some r):A.steps H x=some r:=by
 unfold A.steps at hx ⊢
 split at hx<;>(try (cases hx;done))
 split at hx<;>(try (cases hx;done))
 rename_i b hb
 rw [hle _ b hb]
 simp only
 split at hx<;>(try (cases hx;done))
 ·exact hx
 ·rename_i m _ seen last ho
  cases hm:A.zlu h (.mp m) with
  | none=>rw [hm] at hx;cases hx
  | some r=>rw [hm] at hx;rw [zov hle hm];exact hx
theorem nextMap_le (hle:h.le H) {x:AVal} (hx:Sh.zfc h x≠ .fail):Sh.zfc H x=Sh.zfc h x:=by
 unfold Sh.zfc at hx ⊢
 cases hs:A.steps h x with
 | none=>rw [hs] at hx;exact absurd rfl hx
 | some r=>rw [steps_le hle hs]
theorem pv_le {o o':Option AVal} (ho: ∀ v,o=some v->o'=some v) (hx:Sh.pv o≠ .fail):Sh.pv o'=Sh.pv o:=by
 cases o with
 | none=>exact absurd rfl hx
 | some v=>rw [ho v rfl]
theorem shOf_le (hle:h.le H) {op:Op} (hx:shOf P op ρ h≠ .fail):shOf P op ρ H=shOf P op ρ h:=by
 cases op<;>(try rfl)
 case makeFunc fn _ _=>cases fn<;>rfl
 all_goals simp only [shOf] at hx ⊢
 case load t p=>
  cases hu:P.underlying t with
  | none=>rfl
  | some d=>
   simp only [hu] at hx ⊢
   cases hb:zd1 P t<;>simp only [hb,cond_true,cond_false] at hx ⊢
   ·exact pv_le (fun v=>zk1 hle) hx
   ·exact pv_le (fun v=>ldnv_le hle) hx
 case store t p v=>
  cases hb:zd1 P t<;>simp only [hb,cond_true,cond_false] at hx ⊢
  ·cases hc:Nat.beq (P.cellsOf t) 1<;>simp only [hc,cond_true,cond_false] at hx ⊢
   exact st_le hle hx
  ·exact st_le hle hx
 case convert src dst y=>
  cases hs:P.underlying src with
  | none=>rfl
  | some d=>
   cases hd:P.underlying dst with
   | none=>cases d<;>rfl
   | some d'=>
    simp only [hs,hd] at hx ⊢
    cases d<;>(try rfl)<;>cases d'<;>(try rfl)
    ·rename_i e
     simp only at hx ⊢
     cases hu:isU8 P e<;>simp only [hu,cond_true,cond_false] at hx ⊢
     exact bytesStr_le hle hx
    ·rename_i e _
     simp only at hx ⊢
     cases hu:Nat.beq src dst&&isU8 P e<;>simp only [hu,cond_true,cond_false] at hx ⊢
     exact conv_le hle hx
 case next y b=>
  cases b
  ·exact nextMap_le hle hx
  ·exact nextStr_le hle hx
 case entry y=>exact pv_le (fun v=>entryAt_le hle) hx
 case range t y=>
  cases hu:P.underlying t with
  | none=>rfl
  | some d=>
   simp only [hu] at hx ⊢
   cases d<;>first|rfl|exact rangeMap_le hle hx
 case makeMap t r=>cases r<;>rfl
 case lookup t y i ok=>
  cases hu:P.underlying t with
  | none=>rfl
  | some d=>
   simp only [hu] at hx ⊢
   cases d<;>first|rfl|exact pv_le (fun v=>lkp_le hle) hx
 case mapUpdate t m k v=>
  cases hu:P.underlying t with
  | none=>rfl
  | some d=>
   simp only [hu] at hx ⊢
   cases d<;>first|rfl|exact objT_le hle hx
 case mapEntry t m k=>
  cases hu:P.underlying t with
  | none=>rfl
  | some d=>
   simp only [hu] at hx ⊢
   cases d<;>first|rfl|exact objT_le hle hx
 case entryStore t m k v=>
  cases hu:P.underlying t with
  | none=>rfl
  | some d=>
   simp only [hu] at hx ⊢
   cases d<;>first|rfl|exact objT_le hle hx
 case call c=>
  cases hc:c.callee with
  | value f=>cases f<;>rfl
  | invoke _ _=>rfl
  | builtin b=>
   simp only [hc] at hx ⊢
   unfold zfh at hx ⊢
   split<;>(try rfl)
   ·rename_i t _ x e1 e2
    simp only [e1,e2] at hx
    cases hs:P.underlying t with
    | none=>rfl
    | some d=>
     simp only [hs] at hx ⊢
     cases d<;>first|rfl|exact pv_le (fun v=>mapLen_le hle) hx
   ·rename_i t x e1 e2
    simp only [e1,e2] at hx
    cases hs:P.underlying t with
    | none=>rfl
    | some d=>
     simp only [hs] at hx ⊢
     cases d<;>(try rfl)
     simp only at hx ⊢
     split
     ·rename_i h0
      rw [if_pos h0] at hx
      exact clr_le hle hx
     ·rfl
   ·rename_i t _ x k e1 e2
    simp only [e1,e2] at hx
    cases hs:P.underlying t with
    | none=>rfl
    | some d=>
     simp only [hs] at hx ⊢
     cases d<;>first|rfl|exact mdel_le hle hx
   ·rename_i t u x y e1 e2
    simp only [e1,e2] at hx
    cases hs:P.underlying t with
    | none=>rfl
    | some d=>
     cases hd:P.underlying u with
     | none=>cases d<;>rfl
     | some d'=>
      simp only [hs,hd] at hx ⊢
      cases d<;>(try rfl)<;>cases d'<;>(try rfl)
      ·rename_i e
       simp only at hx ⊢
       split
       ·rename_i h0
        rw [if_pos h0] at hx
        exact app_le hle hx
       ·rfl
      ·rename_i e e'
       simp only at hx ⊢
       split
       ·rename_i h0
        rw [if_pos h0] at hx
        cases hn:A.zgv y with
        | none=>rfl
        | some n=>
         simp only [hn] at hx ⊢
         cases hr:A.rdv h y n (P.cellsOf e) with
         | none=>rw [hr] at hx;exact absurd rfl hx
         | some cs=>rw [hr] at hx;rw [rdv_le hle hr];exact app_le hle hx
       ·rfl
   ·rename_i t u x y e1 e2
    simp only [e1,e2] at hx
    cases hs:P.underlying t with
    | none=>rfl
    | some d=>
     simp only [hs] at hx ⊢
     cases d<;>(try rfl)
     simp only at hx ⊢
     split
     ·rename_i h0
      rw [if_pos h0] at hx
      exact cpy_le hle hx
     ·rfl
def Sh.known (h:za):Sh->Prop
 | .heap id _ _=> ∃ b,h id=some b
 | .many id _=> ∃ b,h id=some b
 | _=>True
theorem zoq {p v:AVal} {f:List AVal->Option (List AVal)} {n off:Nat}:(Sh.st h p f n off v).known h:=by
 unfold Sh.st
 split<;>(try trivial)
 split<;>(try trivial)
 rename_i b hb
 split<;>(try trivial)
 rename_i hi _
 cases (b.own&&_)<;>simp only [cond_true,cond_false]<;>(try trivial)
 split<;>(try trivial)
 exact ⟨b,hb⟩
theorem zfj {o:Option AVal}:(Sh.pv o).known h:=by cases o<;>trivial
theorem zq3 {o:Option (List AVal)} {mk:Nat->AVal}:(Sh.newO o mk).known h:=by cases o<;>trivial
theorem zet {p:Prop} [Decidable p] {x y:Sh} (hx:x.known h) (hy:y.known h):(if p then x else y).known h:=by split<;>assumption
theorem zf6 {p:Bool} {x y:Sh} (hx:x.known h) (hy:y.known h):(bif p then x else y).known h:=by cases p<;>assumption
theorem app_known {es bytes:Nat} {x:AVal} {news:Option (List AVal)}:(Sh.app h es bytes x news).known h:=by
 unfold Sh.app
 cases news with
 | none=>trivial
 | some cs=>
  cases x<;>(try trivial)
  ·exact zet trivial (zet trivial trivial)
  ·exact zet trivial (zet trivial trivial)
  ·simp only
   split<;>(try trivial)
   rename_i b hb
   split<;>(try trivial)
   exact zf6 (zet ⟨b,hb⟩ trivial) (zet trivial trivial)
theorem cpy_known {es:Nat} {x y:AVal}:(Sh.cpy h es x y).known h:=by
 unfold Sh.cpy
 split<;>(try trivial)
 split<;>(try trivial)
 split<;>(try trivial)
 exact zoq
theorem clr_known {z:Option (List AVal)} {x:AVal}:(Sh.clr h z x).known h:=by
 unfold Sh.clr
 cases z with
 | none=>trivial
 | some z=>cases x<;>(try trivial);exact zet trivial zoq
theorem zlc {x:AVal} {f:List (AVal×AVal×Nat)->Nat->Option (List (AVal×AVal×Nat)×Nat×AVal)} {g:AVal->AVal}:(Sh.objT h x f g).known h:=by
 unfold Sh.objT
 split<;>(try trivial)
 split<;>(try trivial)
 rename_i b hb
 split<;>(try trivial)
 split<;>(try trivial)
 exact ⟨b,hb⟩
theorem mdel_known {kd:Option KD} {x k:AVal}:(Sh.mdel h kd x k).known h:=by
 unfold Sh.mdel
 cases x<;>first|exact zlc|exact zet trivial trivial
theorem zqh {x:AVal}:(Sh.rangeMap h x).known h:=by
 unfold Sh.rangeMap
 split<;>(try trivial)
 split<;>trivial
theorem nextMap_known {x:AVal}:(Sh.zfc h x).known h:=by
 unfold Sh.zfc
 split<;>(try trivial)
 rename_i id l hs
 unfold A.steps at hs
 split at hs<;>(try (cases hs;done))
 split at hs<;>(try (cases hs;done))
 rename_i b hb
 split at hs<;>(try (cases hs;done))
 ·cases hs;exact ⟨b,hb⟩
 ·split at hs<;>(try (cases hs;done))
  rename_i es c hm
  cases hck:(es.all fun e=>Nat.blt e.2.2 _)&&Nat.ble _ _ with
  | false=>rw [hck] at hs;cases hs
  | true=>
   rw [hck] at hs
   simp only [cond_true,Option.some.injEq,Prod.mk.injEq] at hs
   obtain ⟨rfl,_⟩:=hs
   exact ⟨b,hb⟩
theorem zqs {op:Op}:(shOf P op ρ h).known h:=by
 cases op<;>(try trivial)<;>simp only [shOf]<;>(try exact zfj)<;>(try exact zq3)
 case pick=>unfold Sh.pick;split<;>trivial
 case nilCheck=>unfold Sh.nilCheck;split<;>trivial
 case buildSlice=>
  split<;>(try trivial)
  refine zet ?_ zq3
  split<;>trivial
 case load=>split<;>(try trivial);exact zf6 zfj zfj
 case store=>exact zf6 zoq (zf6 zoq trivial)
 case binOp=>split<;>(try trivial)<;>(try exact zfj);split<;>(try trivial)<;>exact zfj
 case convert=>
  split<;>(try trivial)<;>(try exact zfj)
  ·refine zf6 ?_ trivial
   unfold Sh.zfv
   split<;>(try trivial)
   split<;>(try trivial)
   split<;>trivial
  ·refine zf6 ?_ trivial
   unfold Sh.ziu
   split<;>(try trivial)
   exact zet trivial trivial
  ·refine zf6 ?_ trivial
   rcases conv_val h _ with e|e<;>rw [e]<;>trivial
 case range=>
  split<;>(try trivial)
  ·unfold Sh.zjl;split<;>trivial
  ·exact zqh
 case makeMap t r=>cases r<;>(try trivial);simp only;split<;>trivial
 case lookup=>split<;>(try trivial);exact zfj
 case mapUpdate=>split<;>(try trivial);exact zlc
 case mapEntry=>split<;>(try trivial);exact zlc
 case entryStore=>split<;>(try trivial);exact zlc
 case next y b=>
  cases b
  ·exact nextMap_known
  simp only
  unfold Sh.zhp
  split<;>(try trivial)
  split<;>(try trivial)
  rename_i b hb
  split<;>(try trivial)
  exact zet ⟨b,hb⟩ trivial
 case makeSlice=>
  split<;>(try trivial)
  refine zet ?_ trivial
  unfold Sh.mks
  split<;>(try trivial)
  exact zet trivial trivial
 case slice=>
  split<;>(try trivial)<;>(try exact zfj)
  ·exact zf6 trivial zfj
  ·refine zf6 trivial ?_
   split<;>(try trivial)<;>exact zfj
 case fieldAddr=>split<;>(try trivial);split<;>(try trivial);exact zf6 trivial zfj
 case field=>split<;>(try trivial);split<;>(try trivial);split<;>(try trivial);exact zf6 zfj zfj
 case indexAddr=>split<;>(try trivial)<;>exact zf6 trivial zfj
 case index=>split<;>(try trivial);exact zfj
 case makeFunc fn _ _=>cases fn<;>trivial
 case call c=>
  split<;>(try trivial)
  ·unfold Sh.zf1;split<;>trivial
  ·unfold zfh
   split<;>(try trivial)<;>(try exact zfj)
   ·split<;>(try trivial)<;>exact zfj
   ·split<;>(try trivial);exact zet clr_known trivial
   ·split<;>(try trivial);exact mdel_known
   ·split<;>(try trivial)
    ·refine zet ?_ trivial
     split<;>(try trivial)
     exact app_known
    ·exact zet app_known trivial
    ·refine zet ?_ trivial
     unfold Sh.appZ
     split<;>(try trivial)
     exact zet trivial trivial
   ·split<;>(try trivial)
    exact zet cpy_known trivial
   ·split<;>(try trivial);exact zfj
theorem sh_frame {K:zQ} {x:Sh} {id:Nat} {b:Blk} (hid:h id=none) (hkn:x.known h) (hx:x.run (AC P) h K):
  x.run (AC P) (upd h id b) fun v h''=> ∃ h',K v h' /\ h' id=none /\ h''=upd h' id b:=by
 cases x with
 | val v=>exact ⟨h,hx,hid,rfl⟩
 | heap i b' v=>
  obtain ⟨b0,hb0⟩:=hkn
  have hne:id≠i:=fun e=>by subst e;rw [hid] at hb0;cases hb0
  exact ⟨upd h i b',hx,by rw [z6 _ _ hne];exact hid,zoo _ _ _ hne⟩
 | many i l=>
  obtain ⟨b0,hb0⟩:=hkn
  have hne:id≠i:=fun e=>by subst e;rw [hid] at hb0;cases hb0
  exact fun p hp=>⟨upd h i p.1,hx p hp,by rw [z6 _ _ hne];exact hid,zoo _ _ _ hne⟩
 | new b' mk=>
  intro i hi
  have hne:id≠i:=fun e=>by subst e;rw [zca] at hi;cases hi
  rw [z6 _ _ (Ne.symm hne)] at hi
  exact ⟨upd h i b',hx i hi,by rw [z6 _ _ hne];exact hid,zoo _ _ _ hne⟩
 | call f args=>exact AC.frame hx hid
 | fail=>exact hx
theorem sh_of_pure {op:Op} (hk:kdOf P op= .pure):(∀ h H:za,shOf P op ρ h=shOf P op ρ H) /\ ((∃ v,shOf P op ρ h= .val v) \/ shOf P op ρ h= .fail):=by
 have pvc: ∀ o:Option AVal,(∃ v,Sh.pv o= .val v) \/ Sh.pv o= .fail:=fun o=>by
  cases o with
  | none=>exact .inr rfl
  | some v=>exact .inl ⟨v,rfl⟩
 have bc: ∀ (b:Bool) (x y:Sh),((∃ v,x= .val v) \/ x= .fail)->((∃ v,y= .val v) \/ y= .fail)->((∃ v,(bif b then x else y)= .val v) \/ (bif b then x else y)= .fail):=fun b x y hx hy=>by
  cases b
  ·exact hy
  ·exact hx
 cases op<;>(try (simp only [kdOf] at hk;cases hk;done))<;>(try (exact ⟨fun _ _=>rfl,.inl ⟨_,rfl⟩⟩))<;>(try (exact ⟨fun _ _=>rfl,pvc _⟩))
 case pick=>exact ⟨fun _ _=>rfl,by simp only [shOf];unfold Sh.pick;split<;>simp⟩
 case nilCheck=>exact ⟨fun _ _=>rfl,by simp only [shOf];unfold Sh.nilCheck;split<;>simp⟩
 case binOp=>exact ⟨fun _ _=>rfl,by simp only [shOf];split<;>(try exact pvc _)<;>(try exact .inr rfl);split<;>first|exact pvc _|exact .inr rfl⟩
 case convert src dst y=>
  simp only [kdOf] at hk
  simp only [shOf]
  cases hs:P.underlying src with
  | none=>simp [hs] at hk
  | some d=>
   cases hd:P.underlying dst with
   | none=>rw [hs,hd] at hk;cases d<;>cases hk
   | some d'=>
    rw [hs,hd] at hk
    cases d<;>(try (cases hk;done))<;>cases d'<;>(try (cases hk;done))<;>exact ⟨fun _ _=>rfl,pvc _⟩
 case slice=>exact ⟨fun _ _=>rfl,by
  simp only [shOf]
  split<;>(try exact pvc _)<;>(try exact .inr rfl)
  ·exact bc _ _ _ (.inr rfl) (pvc _)
  ·exact bc _ _ _ (.inr rfl) (by split<;>(try exact pvc _)<;>exact .inr rfl)⟩
 case fieldAddr=>exact ⟨fun _ _=>rfl,by simp only [shOf];split<;>(try exact .inr rfl);split<;>(try exact .inr rfl);exact bc _ _ _ (.inr rfl) (pvc _)⟩
 case field=>exact ⟨fun _ _=>rfl,by simp only [shOf];split<;>(try exact .inr rfl);split<;>(try exact .inr rfl);split<;>(try exact .inr rfl);exact bc _ _ _ (pvc _) (pvc _)⟩
 case indexAddr=>exact ⟨fun _ _=>rfl,by simp only [shOf];split<;>(try exact .inr rfl)<;>exact bc _ _ _ (.inr rfl) (pvc _)⟩
 case index=>exact ⟨fun _ _=>rfl,by simp only [shOf];split<;>(try exact .inr rfl);exact pvc _⟩
 case makeFunc fn _ _=>cases fn<;>exact ⟨fun _ _=>rfl,by first|exact .inl ⟨_,rfl⟩|exact .inr rfl⟩
 case call c=>
  obtain ⟨callee,args,ats⟩:=c
  cases callee with
  | value _=>simp [kdOf] at hk
  | invoke _ _=>simp [kdOf] at hk
  | builtin b=>
   have hb:(b= .len /\ zod P ats.toList=false) \/ b= .min \/ b= .max \/ b= .cap:=by
    cases b<;>simp [kdOf] at hk ⊢
    cases hm:zod P ats.toList
    ·rfl
    ·rw [hm] at hk;cases hk
   simp only [shOf]
   generalize ats.toList=as at *
   generalize args.toList.map ρ=bs
   rcases hb with ⟨rfl,hnm⟩|rfl|rfl|rfl
   ·cases as with
    | nil=>exact ⟨fun _ _=>rfl,.inr rfl⟩
    | cons t r=>
     rcases bs with _|⟨x,_|⟨y,r'⟩⟩
     ·exact ⟨fun _ _=>rfl,.inr rfl⟩
     ·have hnm': ∀ a b,P.underlying t≠some (.map a b):=fun a b e=>by simp [zod,e] at hnm
      refine ⟨fun h H=> ?_,?_⟩
      ·simp only [zfh]
       cases hu:P.underlying t with
       | none=>rfl
       | some d=>cases d<;>first|rfl|exact absurd hu (hnm' _ _)
      ·simp only [zfh]
       split<;>(try exact pvc _)
       ·exact .inl ⟨_,rfl⟩
       ·exact .inr rfl
     ·exact ⟨fun _ _=>rfl,.inr rfl⟩
   ·rcases bs with _|⟨x,_|⟨y,_|⟨z,r'⟩⟩⟩
    ·exact ⟨fun _ _=>rfl,.inr rfl⟩
    ·exact ⟨fun _ _=>rfl,.inr rfl⟩
    ·exact ⟨fun _ _=>rfl,pvc _⟩
    ·exact ⟨fun _ _=>rfl,.inr rfl⟩
   ·rcases bs with _|⟨x,_|⟨y,_|⟨z,r'⟩⟩⟩
    ·exact ⟨fun _ _=>rfl,.inr rfl⟩
    ·exact ⟨fun _ _=>rfl,.inr rfl⟩
    ·exact ⟨fun _ _=>rfl,pvc _⟩
    ·exact ⟨fun _ _=>rfl,.inr rfl⟩
   ·cases as with
    | nil=>exact ⟨fun _ _=>rfl,.inr rfl⟩
    | cons t r=>
     rcases bs with _|⟨x,_|⟨y,r'⟩⟩
     ·exact ⟨fun _ _=>rfl,.inr rfl⟩
     ·refine ⟨fun _ _=>rfl,?_⟩
      simp only [zfh]
      split<;>(try exact pvc _)<;>exact .inr rfl
     ·exact ⟨fun _ _=>rfl,.inr rfl⟩
theorem sh_of_read {op:Op} (hk:kdOf P op= .read):(∃ v,shOf P op ρ h= .val v) \/ shOf P op ρ h= .fail:=by
 cases op<;>(try (simp only [kdOf] at hk;cases hk;done))
 case convert src dst y=>
  simp only [kdOf] at hk
  simp only [shOf]
  cases hs:P.underlying src with
  | none=>simp [hs] at hk
  | some d=>
   cases hd:P.underlying dst with
   | none=>rw [hs,hd] at hk;cases d<;>cases hk
   | some d'=>
    rw [hs,hd] at hk
    cases d<;>(try (cases hk;done))<;>cases d'<;>(try (cases hk;done))
    simp only
    rename_i e
    cases isU8 P e
    ·exact .inr rfl
    ·exact bytesStr_val h (ρ y)
 case call c=>
  obtain ⟨callee,args,ats⟩:=c
  cases callee with
  | value _=>simp [kdOf] at hk
  | invoke _ _=>simp [kdOf] at hk
  | builtin b=>
   cases b<;>simp [kdOf] at hk
   cases hm:zod P ats.toList<;>rw [hm] at hk<;>cases hk
theorem znm {op:Op} (hk:kdOf P op= .conv): ∃ src dst y e e',op= .convert src dst y /\ P.underlying src=some (.slice e) /\ P.underlying dst=some (.slice e') /\ ∀ h:za,shOf P op ρ h=bif Nat.beq src dst&&isU8 P e then Sh.conv h (ρ y) else .fail:=by
 cases op<;>(try (simp only [kdOf] at hk;cases hk;done))
 case convert src dst y=>
  simp only [kdOf] at hk
  simp only [shOf]
  cases hs:P.underlying src with
  | none=>simp [hs] at hk
  | some d=>
   cases hd:P.underlying dst with
   | none=>rw [hs,hd] at hk;cases d<;>cases hk
   | some d'=>
    rw [hs,hd] at hk
    cases d<;>(try (cases hk;done))<;>cases d'<;>(try (cases hk;done))
    rename_i e e'
    exact ⟨src,dst,y,e,e',rfl,hs,hd,fun _=>rfl⟩
 case call c=>
  obtain ⟨callee,args,ats⟩:=c
  cases callee with
  | value _=>simp [kdOf] at hk
  | invoke _ _=>simp [kdOf] at hk
  | builtin b=>
   cases b<;>simp [kdOf] at hk
   cases hm:zod P ats.toList<;>rw [hm] at hk<;>cases hk
theorem sh_of_alloc {op:Op} (hk:kdOf P op= .alloc):(∀ h H:za,shOf P op ρ h=shOf P op ρ H) /\ ((∃ v,shOf P op ρ h= .val v) \/ (∃ b mk,shOf P op ρ h= .new b mk) \/ shOf P op ρ h= .fail):=by
 have nc: ∀ (o:Option (List AVal)) mk,(∃ v,Sh.newO o mk= .val v) \/ (∃ b m,Sh.newO o mk= .new b m) \/ Sh.newO o mk= .fail:=fun o mk=>by
  cases o with
  | none=>exact .inr (.inr rfl)
  | some v=>exact .inr (.inl ⟨_,_,rfl⟩)
 cases op<;>(try (simp only [kdOf] at hk;cases hk;done))<;>(try (exact ⟨fun _ _=>rfl,nc _ _⟩))
 case buildSlice=>
  refine ⟨fun _ _=>rfl,?_⟩
  simp only [shOf]
  split
  ·split
   ·split
    ·exact .inl ⟨_,rfl⟩
    ·exact .inr (.inr rfl)
   ·exact nc _ _
  ·exact .inr (.inr rfl)
 case makeSlice=>
  refine ⟨fun _ _=>rfl,?_⟩
  simp only [shOf]
  split
  ·split
   ·unfold Sh.mks
    split
    ·split
     ·exact .inr (.inl ⟨_,_,rfl⟩)
     ·exact .inr (.inr rfl)
    ·exact .inr (.inr rfl)
   ·exact .inr (.inr rfl)
  ·exact .inr (.inr rfl)
 case convert src dst y=>
  simp only [kdOf] at hk
  split at hk<;>cases hk
 case call c=>
  obtain ⟨callee,args,ats⟩:=c
  cases callee with
  | value _=>simp [kdOf] at hk
  | invoke _ _=>simp [kdOf] at hk
  | builtin b=>
   cases b<;>simp [kdOf] at hk
   cases hm:zod P ats.toList<;>rw [hm] at hk<;>cases hk
end
def zcq (P:Program) (ops:List Oper) (o:Oper) (s:zcf) (h:za):Sh:=
 match o.guard with
 | none=>shOf P o.op (evS s) h
 | some (j,b)=>match zjv ops j with
  | some t=>match s t with
   | .bool b'=>if b'=b then shOf P o.op (evS s) h else .val (.tup [])
   | .tup []=> .val (.tup [])
   | _=> .fail
  | none=> .fail
def sameAt (h' h:za) (p:AVal×Option Nat):Prop:=
 match p.2 with
 | none=>A.ldv h' p.1=A.ldv h p.1
 | some n=>A.ldnv h' p.1 n=A.ldnv h p.1 n
theorem sameAt.refl (h:za) (p:AVal×Option Nat):sameAt h h p:=by unfold sameAt;split<;>rfl
theorem sameAt.upd {h' h:za} {p:AVal×Option Nat} (x:sameAt h' h p) (id:Nat) (b:Blk):sameAt (Ab.upd h' id b) (Ab.upd h id b) p:=by
 obtain ⟨v,n⟩:=p
 have hp: ∀ i,(Ab.upd h' id b i=Ab.upd h id b i) \/ (i≠id /\ Ab.upd h' id b i=h' i /\ Ab.upd h id b i=h i):=fun i=>by
  by_cases hi:i=id
  ·subst hi;exact .inl (by rw [zca,zca])
  ·exact .inr ⟨hi,z6 _ _ hi,z6 _ _ hi⟩
 unfold sameAt at x ⊢
 cases n with
 | none=>
  simp only at x ⊢
  cases v<;>(try rfl)
  rename_i i g o
  rcases hp i with e|⟨_,e1,e2⟩
  ·simp only [A.ldv,e]
  ·simp only [A.ldv,e1,e2] at x ⊢;exact x
 | some n=>
  simp only at x ⊢
  cases v<;>(try rfl)
  rename_i i g o
  rcases hp i with e|⟨_,e1,e2⟩
  ·simp only [A.ldnv,e]
  ·simp only [A.ldnv,e1,e2] at x ⊢;exact x
section
variable {P:Program} {C:CSem} {h H:za} {s s':zcf} {ops:List Oper} {o:Oper} {K:zQ}
theorem gd_sh {c:AVal} {b:Bool} {x:Sh} {M:(zQ)->Prop} (hM:M K↔x.run C h K):A.gd h c b M K↔(match c with
  | .bool b'=>if b'=b then x else .val (.tup [])
  | .tup []=> .val (.tup [])
  | _=>Sh.fail).run C h K:=by
 cases c<;>(try exact Iff.rfl)
 case tup l=>cases l<;>exact Iff.rfl
 rename_i b'
 simp only [A.gd]
 by_cases e:b'=b
 ·rw [if_pos e];exact ⟨fun ⟨k,_⟩=>hM.1 (k e),fun k=>⟨fun _=>hM.2 k,fun k'=>absurd e k'⟩⟩
 ·rw [if_neg e];exact ⟨fun ⟨_,k⟩=>k e,fun k=>⟨fun k'=>absurd k' e,fun _=>k⟩⟩
theorem zjx:zn5 P C ops o s h K↔(zcq P ops o s h).run C h K:=by
 unfold zn5 zcq
 cases o.guard with
 | none=>exact zkh
 | some jb=>
  obtain ⟨j,b⟩:=jb
  simp only
  cases zjv ops j with
  | none=>exact Iff.rfl
  | some t=>exact gd_sh zkh
theorem znk (hC: ∀ f args h (Q Q':zQ),(∀ v h,Q v h->Q' v h)->C f args h Q->C f args h Q') {ks:List (Operand×TypeId)}:
  znl P C ops o ks s h K↔(zcq P ops o s h).run C h (A.keep h (zed P s ks) K):=by
 cases ks with
 | nil=>
  have e: ∀ v h',A.keep h (zed P s []) K v h'↔K v h':=fun v h'=>⟨fun k=>k.2,fun k=>⟨fun p hp=>(by cases hp),k⟩⟩
  rw [show znl P C ops o [] s h K=zn5 P C ops o s h K from rfl,zjx]
  exact ⟨zgf hC fun v h' k=>(e v h').2 k,zgf hC fun v h' k=>(e v h').1 k⟩
 | cons q r=>
  unfold znl zcq
  simp only
  cases o.guard with
  | none=>exact zkh
  | some jb=>
   obtain ⟨j,b⟩:=jb
   simp only
   cases zjv ops j with
   | none=>exact Iff.rfl
   | some t=>
    simp only
    cases s t<;>(try exact Iff.rfl)
    case tup l=>
     cases l with
     | nil=>exact ⟨fun k=>⟨fun p _=>sameAt.refl h p,k⟩,fun k=>k.2⟩
     | cons _ _=>exact Iff.rfl
    rename_i b'
    simp only [A.gd]
    by_cases e:b'=b
    ·rw [if_pos e]
     exact ⟨fun ⟨k,_⟩=>zkh.1 (k e),fun k=>⟨fun _=>zkh.2 k,fun k'=>absurd e k'⟩⟩
    ·rw [if_neg e]
     exact ⟨fun ⟨_,k⟩=>⟨fun p _=>sameAt.refl h p,k e⟩,fun k=>⟨fun k'=>absurd k' e,fun _=>k.2⟩⟩
theorem zgx (s:zcf) (d:Nat) (v:AVal):putS s (some d) v d=v:=by simp [putS]
theorem zdg (s:zcf) {d k:Nat} (v:AVal) (hk:k≠d):putS s (some d) v k=s k:=by
 have:Nat.beq k d=false:=by rw [<- Bool.not_eq_true,Nat.beq_eq];exact hk
 simp [putS,this]
theorem putS_comm (s:zcf) {x y:Option Nat} (u v:AVal) (hxy: ∀ d,x=some d->y≠some d):putS (putS s x u) y v=putS (putS s y v) x u:=by
 cases x with
 | none=>rfl
 | some d=>
  cases y with
  | none=>rfl
  | some e=>
   have hne:d≠e:=fun he=>hxy d rfl (by rw [he])
   funext k
   by_cases h1:k=d
   ·subst h1;rw [zdg _ _ hne,zgx,zgx]
   ·by_cases h2:k=e
    ·subst h2;rw [zgx,zdg _ _ h1,zgx]
    ·rw [zdg _ _ h2,zdg _ _ h1,zdg _ _ h1,zdg _ _ h2]
theorem evS_put {d:Option Nat} {v:AVal} {x:Operand} (hx: ∀ k,d=some k->x≠ .tmp k):evS (putS s d v) x=evS s x:=by
 cases x<;>(try rfl)
 rename_i t
 cases d with
 | none=>rfl
 | some d=>exact zdg _ _ fun e=>hx d rfl (by rw [e])
theorem zh5 {ops:Array Oper} {d:Option Nat} {v:AVal} (hd: ∀ k,d=some k->k∉o.looksAt ops):zcq P ops.toList o (putS s d v) h=zcq P ops.toList o s h:=by
 have h1: ∀ x∈o.op.operands,evS (putS s d v) x=evS s x:=fun x hx=>evS_put fun k hk e=>hd k hk (by
  subst e
  exact List.mem_append_left _ (List.mem_filterMap.2 ⟨.tmp k,by simpa using hx,rfl⟩))
 unfold zcq
 split
 ·exact zjy h1
 ·rename_i j b hg
  cases ht:zjv ops.toList j with
  | none=>rfl
  | some t=>
   have:putS s d v t=s t:=by
    cases d with
    | none=>rfl
    | some d=>
     refine zdg _ _ fun e=>hd d rfl ?_
     subst e
     unfold Oper.looksAt
     rw [hg]
     refine List.mem_append_right _ ?_
     have:(ops[j]?).bind (·.dst)=some t:=by unfold zjv at ht;simpa using ht
     simp [this]
   simp only [this]
   split
   ·split
    ·exact zjy h1
    ·rfl
   ·rfl
   ·rfl
theorem zkz (hle:h.le H) (hx:zcq P ops o s h≠ .fail):zcq P ops o s H=zcq P ops o s h:=by
 unfold zcq at hx ⊢
 split
 ·rename_i hg;simp only [hg] at hx;exact shOf_le hle hx
 ·rename_i j b hg
  simp only [hg] at hx
  split
  ·rename_i t ht
   simp only [ht] at hx
   split
   ·rename_i b' hb
    simp only [hb] at hx
    split
    ·rename_i e;rw [if_pos e] at hx;exact shOf_le hle hx
    ·rfl
   ·rfl
   ·rfl
  ·rfl
theorem zn6:(zcq P ops o s h).known h:=by
 unfold zcq
 split
 ·exact zqs
 ·split
  ·split
   ·exact zet zqs trivial
   ·trivial
   ·trivial
  ·trivial
theorem zg5 (hk:kdOf P o.op= .pure):(∀ h H:za,zcq P ops o s h=zcq P ops o s H) /\ ((∃ v,zcq P ops o s h= .val v) \/ zcq P ops o s h= .fail):=by
 have hp:=fun (h:za)=>sh_of_pure (P:=P) (h:=h) (ρ:=evS s) hk
 constructor
 ·intro h H
  unfold zcq
  rw [(hp h).1 h H]
 ·unfold zcq
  split
  ·exact (hp h).2
  ·split
   ·split
    ·split
     ·exact (hp h).2
     ·exact .inl ⟨_,rfl⟩
    ·exact .inl ⟨_,rfl⟩
    ·exact .inr rfl
   ·exact .inr rfl
theorem zgd (hk:kdOf P o.op= .alloc):(∀ h H:za,zcq P ops o s h=zcq P ops o s H) /\ ((∃ v,zcq P ops o s h= .val v) \/ (∃ b mk,zcq P ops o s h= .new b mk) \/ zcq P ops o s h= .fail):=by
 have hp:=fun (h:za)=>sh_of_alloc (P:=P) (h:=h) (ρ:=evS s) hk
 constructor
 ·intro h H
  unfold zcq
  rw [(hp h).1 h H]
 ·unfold zcq
  split
  ·exact (hp h).2
  ·split
   ·split
    ·split
     ·exact (hp h).2
     ·exact .inl ⟨_,rfl⟩
    ·exact .inl ⟨_,rfl⟩
    ·exact .inr (.inr rfl)
   ·exact .inr (.inr rfl)
theorem zo7 (hk:kdOf P o.op= .read):(∃ v,zcq P ops o s h= .val v) \/ zcq P ops o s h= .fail:=by
 have main:=sh_of_read (P:=P) (h:=h) (ρ:=evS s) hk
 unfold zcq
 split
 ·exact main
 ·split
  ·split
   ·split
    ·exact main
    ·exact .inl ⟨_,rfl⟩
   ·exact .inl ⟨_,rfl⟩
   ·exact .inr rfl
  ·exact .inr rfl
theorem zo8 (hk:kdOf P o.op= .conv): ∃ v,∀ h,zcq P ops o s h= .val v \/ zcq P ops o s h= .fail:=by
 obtain ⟨src,dst,y,e,e',_,_,_,hsh⟩:=znm (P:=P) (ρ:=evS s) hk
 have main: ∀ h,shOf P o.op (evS s) h= .val (evS s y) \/ shOf P o.op (evS s) h= .fail:=fun h=>by
  rw [hsh h]
  cases Nat.beq src dst&&isU8 P e
  ·exact .inr rfl
  ·exact conv_val h _
 unfold zcq
 split
 ·exact ⟨_,main⟩
 ·split
  ·split
   ·split
    ·exact ⟨_,main⟩
    ·exact ⟨_,fun _=> .inl rfl⟩
   ·exact ⟨_,fun _=> .inl rfl⟩
   ·exact ⟨.undef,fun _=> .inr rfl⟩
  ·exact ⟨.undef,fun _=> .inr rfl⟩
theorem kd_load (hk:kdOf P o.op= .load): ∃ t x,o.op= .load t x:=by
 cases ho:o.op<;>rw [ho] at hk<;>(try (simp only [kdOf] at hk;cases hk;done))
 ·exact ⟨_,_,rfl⟩
 ·simp only [kdOf] at hk;split at hk<;>cases hk
 ·rename_i c
  obtain ⟨callee,args,ats⟩:=c
  cases callee with
  | value _=>simp [kdOf] at hk
  | invoke _ _=>simp [kdOf] at hk
  | builtin b=>
   cases b<;>simp [kdOf] at hk
   cases hm:zod P ats.toList<;>rw [hm] at hk<;>cases hk
theorem zme {t:TypeId} {x:Operand} (ho:o.op= .load t x):
  (sameAt H h (evS s x,bif zd1 P t then some (P.cellsOf t) else none)->zcq P ops o s H=zcq P ops o s h) /\ ((∃ v,zcq P ops o s h= .val v) \/ zcq P ops o s h= .fail):=by
 have main:(sameAt H h (evS s x,bif zd1 P t then some (P.cellsOf t) else none)->shOf P o.op (evS s) H=shOf P o.op (evS s) h) /\ ((∃ v,shOf P o.op (evS s) h= .val v) \/ shOf P o.op (evS s) h= .fail):=by
  have pvc: ∀ o:Option AVal,(∃ v,Sh.pv o= .val v) \/ Sh.pv o= .fail:=fun o=>by
   cases o with
   | none=>exact .inr rfl
   | some v=>exact .inl ⟨v,rfl⟩
  rw [ho]
  simp only [shOf]
  cases P.underlying t with
  | none=>exact ⟨fun _=>rfl,.inr rfl⟩
  | some d=>
   cases hb:zd1 P t
   ·exact ⟨fun hs=>by simp only [sameAt,cond_false] at hs ⊢;rw [hs],pvc _⟩
   ·exact ⟨fun hs=>by simp only [sameAt,cond_true] at hs ⊢;rw [hs],pvc _⟩
 constructor
 ·intro hs
  unfold zcq
  rw [main.1 hs]
 ·unfold zcq
  split
  ·exact main.2
  ·split
   ·split
    ·split
     ·exact main.2
     ·exact .inl ⟨_,rfl⟩
    ·exact .inl ⟨_,rfl⟩
    ·exact .inr rfl
   ·exact .inr rfl
theorem zkl {ks:List (Operand×TypeId)} {d:Option Nat} {v:AVal} (hd: ∀ q∈ks,∀ k,d=some k->q.1≠ .tmp k):zed P (putS s d v) ks=zed P s ks:=
 List.map_congr_left fun q hq=>by rw [evS_put fun k hk=>hd q hq k hk]
end
abbrev zjj:=Item×List (Operand×TypeId)
structure Pair (ops:Array Oper) (x y:zjj):Prop where
 notBehind:x.1.m.testBit y.1.i=false
 place: ∀ t a,x.1.o.op= .load t a-> ∀ d,y.1.o.dst=some d->a≠ .tmp d
 free:y.1.m.testBit x.1.i=true \/ (x.1.k.fits y.1.k=true /\ x.1.o.apart ops y.1.o=true)
 keeps: ∀ t a,x.1.o.op= .load t a->y.1.k= .effect->y.1.m.testBit x.1.i=false->(a,t)∈y.2
 slots: ∀ q∈x.2,∀ d,y.1.o.dst=some d->q.1≠ .tmp d
structure Good (P:Program) (x:zjj):Prop where
 place: ∀ t a,x.1.o.op= .load t a-> ∀ d,x.1.o.dst=some d->a≠ .tmp d
 self:x.1.m.testBit x.1.i=false
 quiet:x.1.k≠ .effect->x.2=[]
 kind:x.1.k=kdOf P x.1.o.op
theorem zj2 {ops:Array Oper} {x y:Oper} (hap:x.apart ops y=true):(∀ d,x.dst=some d->d∉y.looksAt ops) /\ (∀ d,x.dst=some d->y.dst≠some d) /\ (∀ d,y.dst=some d->d∉x.looksAt ops):=
 Oper.apart_spec hap
section
variable {P:Program} {ops:Array Oper}
theorem zjf (P:Program): ∀ f args h (Q Q':zQ),(∀ v h,Q v h->Q' v h)->AC P f args h Q->AC P f args h Q':=fun _ _ _ _ _ hq x=>AC.mono hq x
theorem zer {x:zjj} {r:List zjj} {Q:zcf->za->Prop} {s:zcf} {h:za}:
  zfl P (AC P) ops.toList (x::r) Q s h↔(zcq P ops.toList x.1.o s h).run (AC P) h (A.keep h (zed P s x.2) fun v h=>zfl P (AC P) ops.toList r Q (putS s x.1.o.dst v) h):=
 znk (zjf P)
theorem bubble (t : zjj) (ht : Good P t) (ys : List zjj) (Q : zcf -> za -> Prop) : ∀ (xs : List zjj) (s : zcf) (h : za) (ko : List (Operand × TypeId)), (∀ q ∈ ko, q ∈ t.2) -> (t.1.k ≠ .effect -> ko = []) ->
    (∀ x ∈ xs, ∀ q ∈ ko, ∀ d, x.1.o.dst = some d -> q.1 ≠ .tmp d) -> (∀ x ∈ xs, Good P x) -> (∀ x ∈ xs, Pair ops x t) -> (∀ x ∈ xs, t.1.m.testBit x.1.i = false) -> xs.Pairwise (Pair ops) ->
    t.1.k ≠ .conv -> (t.1.k ≠ .effect -> t.1.k ≠ .load -> t.1.k ≠ .read -> zcq P ops.toList t.1.o s h ≠ .fail) ->
    zfl P (AC P) ops.toList (xs ++ t :: ys) Q s h ->
    (zcq P ops.toList t.1.o s h).run (AC P) h fun v h' => (∀ p ∈ zed P s ko, sameAt h' h p) /\ zfl P (AC P) ops.toList (xs ++ ys) Q (putS s t.1.o.dst v) h'
  | [], s, h, ko, hko, _, _, _, _, _, _, _, _, H => by
    rw [List.nil_append, zer] at H
    refine zgf (zjf P) (fun v h' hk => ⟨fun p hp => ?_, hk.2⟩) H
    refine hk.1 p ?_
    simp only [zed, List.mem_map] at hp ⊢
    obtain ⟨q, hq, e⟩ := hp
    exact ⟨q, hko q hq, e⟩
  | x :: xs, s, h, ko, hko, hko0, hsl, hg, hpt, hunord, hpw, htc, hnf, H => by
    have gx := hg x (by simp)
    have px := hpt x (by simp)
    obtain ⟨hfit, hap⟩ := px.free.resolve_left (by rw [hunord x (by simp)]; simp)
    obtain ⟨ap1, ap2, ap3⟩ := zj2 hap
    rw [List.pairwise_cons] at hpw
    have tsh : ∀ v h1, zcq P ops.toList t.1.o (putS s x.1.o.dst v) h1 = zcq P ops.toList t.1.o s h1 := fun v h1 => zh5 fun d hd => ap1 d hd
    have xsh : ∀ u h1, zcq P ops.toList x.1.o (putS s t.1.o.dst u) h1 = zcq P ops.toList x.1.o s h1 := fun u h1 => zh5 fun d hd => ap3 d hd
    have comm : ∀ u v, putS (putS s x.1.o.dst v) t.1.o.dst u = putS (putS s t.1.o.dst u) x.1.o.dst v := fun u v => putS_comm s v u fun d hd => ap2 d hd
    have kx : ∀ u, zed P (putS s t.1.o.dst u) x.2 = zed P s x.2 := fun u => zkl fun q hq d hd => px.slots q hq d hd
    have ih := fun s h ko a b c d => bubble t ht ys Q xs s h ko a b c (fun y hy => hg y (by simp [hy])) (fun y hy => hpt y (by simp [hy])) (fun y hy => hunord y (by simp [hy])) hpw.2 htc d
    have kput : ∀ v, zed P (putS s x.1.o.dst v) ko = zed P s ko := fun v => zkl fun q hq d hd => hsl x (by simp) q hq d hd
    rw [List.cons_append, zer] at H
    have viaVal : ∀ v, zcq P ops.toList x.1.o s h = .val v -> x.2 = [] -> (∀ ko', (∀ q ∈ ko', q ∈ t.2) -> (t.1.k ≠ .effect -> ko' = []) -> (∀ y ∈ x :: xs, ∀ q ∈ ko', ∀ d, y.1.o.dst = some d -> q.1 ≠ .tmp d) ->
        (∀ q ∈ ko, q ∈ ko') -> (∀ u h', (zcq P ops.toList t.1.o s h).run (AC P) h (fun u' h'' => u' = u -> h'' = h' -> True) -> True) ->
        (∀ h', (∀ p ∈ zed P s ko', sameAt h' h p) -> (t.1.k ≠ .effect -> h.le h') -> zcq P ops.toList x.1.o s h' = .val v) ->
        (zcq P ops.toList t.1.o s h).run (AC P) h fun u h' => (∀ p ∈ zed P s ko, sameAt h' h p) /\ zfl P (AC P) ops.toList (x :: xs ++ ys) Q (putS s t.1.o.dst u) h') := by
      intro v hv hx2 ko' k1 k2 k3 k4 _ k5
      rw [hv] at H
      have H' := H.2
      have r := ih (putS s x.1.o.dst v) h ko' k1 k2 (fun y hy => k3 y (by simp [hy])) (fun a b c => by rw [tsh]; exact hnf a b c) H'
      rw [tsh] at r
      have kput' : zed P (putS s x.1.o.dst v) ko' = zed P s ko' := zkl fun q hq d hd => k3 x (by simp) q hq d hd
      rw [kput'] at r
      have hle : t.1.k ≠ .effect -> (zcq P ops.toList t.1.o s h).run (AC P) h (fun u h' => h.le h' /\ ((∀ p ∈ zed P s ko', sameAt h' h p) /\ zfl P (AC P) ops.toList (xs ++ ys) Q (putS (putS s x.1.o.dst v) t.1.o.dst u) h')) := by
        intro hne
        have vn : (∃ v, zcq P ops.toList t.1.o s h = .val v) \/ (∃ b mk, zcq P ops.toList t.1.o s h = .new b mk) \/ zcq P ops.toList t.1.o s h = .fail := by
          have hk := ht.kind
          cases e : t.1.k with
          | effect => exact absurd e hne
          | pure => rw [e] at hk; rcases (zg5 (h := h) (s := s) (ops := ops.toList) hk.symm).2 with h' | h'
                    · exact .inl h'
                    · exact .inr (.inr h')
          | load => rw [e] at hk; obtain ⟨_, _, hl⟩ := kd_load hk.symm; rcases (zme (P := P) (H := h) (h := h) (s := s) (ops := ops.toList) hl).2 with h' | h'
                    · exact .inl h'
                    · exact .inr (.inr h')
          | alloc => rw [e] at hk; exact (zgd (h := h) (s := s) (ops := ops.toList) hk.symm).2
          | read => rw [e] at hk; rcases zo7 (h := h) (s := s) (ops := ops.toList) hk.symm with h' | h'
                    · exact .inl h'
                    · exact .inr (.inr h')
          | conv => exact absurd e htc
        rcases vn with ⟨w, hw⟩ | ⟨b, mk, hw⟩ | hw <;> rw [hw] at r ⊢
        · exact ⟨za.le_refl h, r⟩
        · exact fun id hid => ⟨zgm b hid, r id hid⟩
        · exact r
      have fin : ∀ u h', (∀ p ∈ zed P s ko', sameAt h' h p) -> (t.1.k ≠ .effect -> h.le h') -> zfl P (AC P) ops.toList (xs ++ ys) Q (putS (putS s x.1.o.dst v) t.1.o.dst u) h' ->
          (∀ p ∈ zed P s ko, sameAt h' h p) /\ zfl P (AC P) ops.toList (x :: xs ++ ys) Q (putS s t.1.o.dst u) h' := by
        intro u h' q1 q2 q3
        refine ⟨fun p hp => q1 p ?_, ?_⟩
        · simp only [zed, List.mem_map] at hp ⊢
          obtain ⟨q, hq, e⟩ := hp
          exact ⟨q, k4 q hq, e⟩
        · rw [List.cons_append, zer, xsh, k5 h' q1 q2, hx2]
          refine ⟨fun p hp => by simp [zed] at hp, ?_⟩
          show zfl P (AC P) ops.toList (xs ++ ys) Q (putS (putS s t.1.o.dst _) x.1.o.dst _) _
          rw [<- comm]; exact q3
      by_cases hne : t.1.k = .effect
      · exact zgf (zjf P) (fun u h' hr => fin u h' hr.1 (fun hh => absurd hne hh) hr.2) r
      · exact zgf (zjf P) (fun u h' hr => fin u h' hr.2.1 (fun _ => hr.1) hr.2.2) (hle hne)
    have simple : ∀ v, zcq P ops.toList x.1.o s h = .val v -> x.2 = [] -> (∀ h', zcq P ops.toList x.1.o s h' = .val v) ->
        (zcq P ops.toList t.1.o s h).run (AC P) h fun u h' => (∀ p ∈ zed P s ko, sameAt h' h p) /\ zfl P (AC P) ops.toList (x :: xs ++ ys) Q (putS s t.1.o.dst u) h' := fun v hv hx2 hind =>
      viaVal v hv hx2 ko hko hko0 (fun y hy => hsl y hy) (fun _ hq => hq) (fun _ _ _ => trivial) fun h' _ _ => hind h'
    cases ek : x.1.k with
    | pure =>
      have hk := gx.kind
      rw [ek] at hk
      obtain ⟨i1, i2⟩ := zg5 (h := h) (s := s) (ops := ops.toList) hk.symm
      rcases i2 with ⟨v, hv⟩ | hv
      · exact simple v hv (gx.quiet (by rw [ek]; simp)) fun h' => by rw [i1 h' h]; exact hv
      · rw [hv] at H; exact H.elim
    | load =>
      have hk := gx.kind
      rw [ek] at hk
      obtain ⟨ty, ad, hl⟩ := kd_load hk.symm
      rcases (zme (P := P) (H := h) (h := h) (s := s) (ops := ops.toList) hl).2 with ⟨v, hv⟩ | hv
      · by_cases hne : t.1.k = .effect
        · have hmem := px.keeps ty ad hl hne (hunord x (by simp))
          refine viaVal v hv (gx.quiet (by rw [ek]; simp)) ((ad, ty) :: ko) (fun q hq => ?_) (fun hh => absurd hne hh) (fun y hy q hq d hd => ?_) (fun q hq => by simp [hq]) (fun _ _ _ => trivial) fun h' hs _ => ?_
          · rcases List.mem_cons.1 hq with rfl | hq
            · exact hmem
            · exact hko q hq
          · rcases List.mem_cons.1 hq with rfl | hq
            · rcases List.mem_cons.1 hy with rfl | hy
              · exact gx.place ty ad hl d hd
              · exact (hpw.1 y hy).place ty ad hl d hd
            · exact hsl y hy q hq d hd
          · rw [(zme (P := P) (H := h') (h := h) (s := s) (ops := ops.toList) hl).1 (hs _ (by simp [zed]))]; exact hv
        · refine viaVal v hv (gx.quiet (by rw [ek]; simp)) ko hko hko0 (fun y hy => hsl y hy) (fun _ hq => hq) (fun _ _ _ => trivial) fun h' _ hle => ?_
          rw [zkz (hle hne) (by rw [hv]; simp)]; exact hv
      · rw [hv] at H; exact H.elim
    | read =>
      have hk := gx.kind
      rw [ek] at hk
      have hne : t.1.k ≠ .effect := fun e => by rw [ek, e] at hfit; simp [Kd.fits] at hfit
      rcases zo7 (h := h) (s := s) (ops := ops.toList) hk.symm with ⟨v, hv⟩ | hv
      · refine viaVal v hv (gx.quiet (by rw [ek]; simp)) ko hko hko0 (fun y hy => hsl y hy) (fun _ hq => hq) (fun _ _ _ => trivial) fun h' _ hle => ?_
        rw [zkz (hle hne) (by rw [hv]; simp)]; exact hv
      · rw [hv] at H; exact H.elim
    | conv =>
      have hk := gx.kind
      rw [ek] at hk
      have hne : t.1.k ≠ .effect := fun e => by rw [ek, e] at hfit; simp [Kd.fits] at hfit
      obtain ⟨v, hor⟩ := zo8 (s := s) (ops := ops.toList) hk.symm
      rcases hor h with hv | hv
      · refine viaVal v hv (gx.quiet (by rw [ek]; simp)) ko hko hko0 (fun y hy => hsl y hy) (fun _ hq => hq) (fun _ _ _ => trivial) fun h' _ hle => ?_
        rw [zkz (hle hne) (by rw [hv]; simp)]; exact hv
      · rw [hv] at H; exact H.elim
    | alloc =>
      have hk := gx.kind
      rw [ek] at hk
      obtain ⟨i1, i2⟩ := zgd (h := h) (s := s) (ops := ops.toList) hk.symm
      rcases i2 with ⟨v, hv⟩ | ⟨b, mk, hv⟩ | hv
      · exact simple v hv (gx.quiet (by rw [ek]; simp)) fun h' => by rw [i1 h' h]; exact hv
      · have hx2 := gx.quiet (by rw [ek]; simp)
        have hte : t.1.k ≠ .effect := fun e => by rw [ek, e] at hfit; simp [Kd.fits] at hfit
        have htl : t.1.k ≠ .load := fun e => by rw [ek, e] at hfit; simp [Kd.fits] at hfit
        have htr : t.1.k ≠ .read := fun e => by rw [ek, e] at hfit; simp [Kd.fits] at hfit
        have hk0 := hko0 hte
        subst hk0
        rw [hv] at H
        have tind : ∀ h h' : za, zcq P ops.toList t.1.o s h = zcq P ops.toList t.1.o s h' := by
          have hk := ht.kind
          cases e : t.1.k with
          | effect => exact absurd e hte
          | load => exact absurd e htl
          | read => exact absurd e htr
          | conv => exact absurd e htc
          | pure => rw [e] at hk; exact (zg5 (h := h) (s := s) (ops := ops.toList) hk.symm).1
          | alloc => rw [e] at hk; exact (zgd (h := h) (s := s) (ops := ops.toList) hk.symm).1
        have tval : (∃ v, zcq P ops.toList t.1.o s h = .val v) \/ (∃ b mk, zcq P ops.toList t.1.o s h = .new b mk) \/ zcq P ops.toList t.1.o s h = .fail := by
          have hk := ht.kind
          cases e : t.1.k with
          | effect => exact absurd e hte
          | load => exact absurd e htl
          | read => exact absurd e htr
          | conv => exact absurd e htc
          | pure => rw [e] at hk; rcases (zg5 (h := h) (s := s) (ops := ops.toList) hk.symm).2 with h' | h'
                    · exact .inl h'
                    · exact .inr (.inr h')
          | alloc => rw [e] at hk; exact (zgd (h := h) (s := s) (ops := ops.toList) hk.symm).2
        have each : ∀ id, h id = none -> (zcq P ops.toList t.1.o s h).run (AC P) (upd h id b) fun u h' => zfl P (AC P) ops.toList (xs ++ ys) Q (putS (putS s x.1.o.dst (mk id)) t.1.o.dst u) h' := fun id hid => by
          have r := ih (putS s x.1.o.dst (mk id)) (upd h id b) [] (by simp) (fun _ => rfl) (by simp) (fun a c d => by rw [tsh, tind _ h]; exact hnf a c d) (H id hid).2
          rw [tsh, tind _ h] at r
          exact zgf (zjf P) (fun u h' hr => hr.2) r
        have xind : ∀ h', zcq P ops.toList x.1.o s h' = .new b mk := fun h' => by rw [i1 h' h]; exact hv
        rcases tval with ⟨u, hu⟩ | ⟨b2, mk2, hu⟩ | hu
        · rw [hu] at each ⊢
          refine ⟨fun p hp => by simp [zed] at hp, ?_⟩
          rw [List.cons_append, zer, xsh, xind, hx2]
          intro id hid
          refine ⟨fun p hp => by simp [zed] at hp, ?_⟩
          show zfl P (AC P) ops.toList (xs ++ ys) Q (putS (putS s t.1.o.dst _) x.1.o.dst _) _
          rw [<- comm]; exact each id hid
        · rw [hu] at each ⊢
          intro id2 hid2
          refine ⟨fun p hp => by simp [zed] at hp, ?_⟩
          rw [List.cons_append, zer, xsh, xind, hx2]
          intro id hid
          have hne : id ≠ id2 := fun e => by subst e; rw [zca] at hid; cases hid
          rw [z6 _ _ hne] at hid
          refine ⟨fun p hp => by simp [zed] at hp, ?_⟩
          show zfl P (AC P) ops.toList (xs ++ ys) Q (putS (putS s t.1.o.dst _) x.1.o.dst _) _
          rw [<- comm, zoo _ _ _ (Ne.symm hne)]
          exact each id hid id2 (by rw [z6 _ _ (Ne.symm hne)]; exact hid2)
        · exact absurd hu (hnf hte htl htr)
      · rw [hv] at H; exact H.elim
    | effect =>
      have hte : t.1.k ≠ .effect := fun e => by rw [ek, e] at hfit; simp [Kd.fits] at hfit
      have htl : t.1.k ≠ .load := fun e => by rw [ek, e] at hfit; simp [Kd.fits] at hfit
      have htr : t.1.k ≠ .read := fun e => by rw [ek, e] at hfit; simp [Kd.fits] at hfit
      have hk0 := hko0 hte
      subst hk0
      have tind : ∀ h h' : za, zcq P ops.toList t.1.o s h = zcq P ops.toList t.1.o s h' := by
        have hk := ht.kind
        cases e : t.1.k with
        | effect => exact absurd e hte
        | load => exact absurd e htl
        | read => exact absurd e htr
        | conv => exact absurd e htc
        | pure => rw [e] at hk; exact (zg5 (h := h) (s := s) (ops := ops.toList) hk.symm).1
        | alloc => rw [e] at hk; exact (zgd (h := h) (s := s) (ops := ops.toList) hk.symm).1
      have tval : (∃ v, zcq P ops.toList t.1.o s h = .val v) \/ (∃ b mk, zcq P ops.toList t.1.o s h = .new b mk) \/ zcq P ops.toList t.1.o s h = .fail := by
        have hk := ht.kind
        cases e : t.1.k with
        | effect => exact absurd e hte
        | load => exact absurd e htl
        | read => exact absurd e htr
        | conv => exact absurd e htc
        | pure => rw [e] at hk; rcases (zg5 (h := h) (s := s) (ops := ops.toList) hk.symm).2 with h' | h'
                  · exact .inl h'
                  · exact .inr (.inr h')
        | alloc => rw [e] at hk; exact (zgd (h := h) (s := s) (ops := ops.toList) hk.symm).2
      have each : ∀ v h1, zfl P (AC P) ops.toList (xs ++ t :: ys) Q (putS s x.1.o.dst v) h1 -> (zcq P ops.toList t.1.o s h).run (AC P) h1 fun u h' => zfl P (AC P) ops.toList (xs ++ ys) Q (putS (putS s x.1.o.dst v) t.1.o.dst u) h' := fun v h1 hh => by
        have r := ih (putS s x.1.o.dst v) h1 [] (by simp) (fun _ => rfl) (by simp) (fun a c d => by rw [tsh, tind _ h]; exact hnf a c d) hh
        rw [tsh, tind _ h] at r
        exact zgf (zjf P) (fun u h' hr => hr.2) r
      rcases tval with ⟨u, hu⟩ | ⟨b2, mk2, hu⟩ | hu
      · rw [hu] at each ⊢
        refine ⟨fun p hp => by simp [zed] at hp, ?_⟩
        rw [List.cons_append, zer, xsh, kx]
        refine zgf (zjf P) (fun v h1 hr => ⟨hr.1, ?_⟩) H
        show zfl P (AC P) ops.toList (xs ++ ys) Q (putS (putS s t.1.o.dst _) x.1.o.dst _) _
        rw [<- comm]; exact each v h1 hr.2
      · rw [hu] at each ⊢
        intro id2 hid2
        refine ⟨fun p hp => by simp [zed] at hp, ?_⟩
        rw [List.cons_append, zer, xsh, kx]
        have hnfx : zcq P ops.toList x.1.o s h ≠ .fail := fun e => by rw [e] at H; exact H
        rw [zkz (zgm b2 hid2) hnfx]
        refine zgf (zjf P) (fun v h'' hr => ?_) (sh_frame (b := b2) hid2 zn6 H)
        obtain ⟨h1, ⟨q1, q2⟩, q3, rfl⟩ := hr
        refine ⟨fun p hp => sameAt.upd (q1 p hp) id2 b2, ?_⟩
        show zfl P (AC P) ops.toList (xs ++ ys) Q (putS (putS s t.1.o.dst _) x.1.o.dst _) _
        rw [<- comm]; exact each v h1 q2 id2 q3
      · exact absurd hu (hnf hte htl htr)
theorem bubbleC (t:zjj) (ht:Good P t) (hk:t.1.k= .conv) (ys:List zjj) (Q:zcf->za->Prop): ∀ (xs:List zjj) (s:zcf) (h:za) (v:AVal),(∀ h,zcq P ops.toList t.1.o s h= .val v \/ zcq P ops.toList t.1.o s h= .fail) ->
  (∀ x∈xs,Pair ops x t)->(∀ x∈xs,t.1.m.testBit x.1.i=false)->zfl P (AC P) ops.toList (xs++t::ys) Q s h->zfl P (AC P) ops.toList (xs++ys) Q (putS s t.1.o.dst v) h
 | [],s,h,v,hv,_,_,H=>by
  rw [List.nil_append,zer] at H
  rcases hv h with e|e
  ·rw [e] at H;exact H.2
  ·rw [e] at H;exact H.elim
 | x::xs,s,h,v,hv,hpt,hunord,H=>by
  have px:=hpt x (by simp)
  obtain ⟨hfit,hap⟩:=px.free.resolve_left (by rw [hunord x (by simp)];simp)
  obtain ⟨ap1,ap2,ap3⟩:=zj2 hap
  have tsh: ∀ v h1,zcq P ops.toList t.1.o (putS s x.1.o.dst v) h1=zcq P ops.toList t.1.o s h1:=fun v h1=>zh5 fun d hd=>ap1 d hd
  have xsh: ∀ u h1,zcq P ops.toList x.1.o (putS s t.1.o.dst u) h1=zcq P ops.toList x.1.o s h1:=fun u h1=>zh5 fun d hd=>ap3 d hd
  have comm: ∀ u v,putS (putS s x.1.o.dst v) t.1.o.dst u=putS (putS s t.1.o.dst u) x.1.o.dst v:=fun u v=>putS_comm s v u fun d hd=>ap2 d hd
  have kx: ∀ u,zed P (putS s t.1.o.dst u) x.2=zed P s x.2:=fun u=>zkl fun q hq d hd=>px.slots q hq d hd
  rw [List.cons_append,zer] at H ⊢
  rw [xsh,kx]
  refine zgf (zjf P) (fun u h' hr=>⟨hr.1,?_⟩) H
  show zfl P (AC P) ops.toList (xs++ys) Q (putS (putS s t.1.o.dst _) x.1.o.dst _) _
  rw [<- comm]
  exact bubbleC t ht hk ys Q xs _ h' v (fun h1=>by rw [tsh];exact hv h1) (fun y hy=>hpt y (by simp [hy])) (fun y hy=>hunord y (by simp [hy])) hr.2
end
end Go.Ab
namespace Go.Ab
open Go.RowKit (Below)
def Dfs (ρ:Locs) (h0 H0 h H:za):List Deferred->List Nat->Prop
 | [],l=>l=[]
 | d::ds,l=> ∃ i is L,l=i::is /\ d={ target:= .collected L.blk,args:= #[] } /\ ρ i 0=some L /\ H i=some (zgq (.dfr true)) /\ h i=none /\ (h0 i=none->H0 i=none) /\ i∉is /\ Dfs ρ h0 H0 h H ds is
theorem Dfs.step {ρ ρ':Locs} {h0 H0 h H h' H':za} (hρ:ρ.le ρ') (hf:Fr h H h' H'): ∀ {ds:List Deferred} {l:List Nat},Dfs ρ h0 H0 h H ds l->Dfs ρ' h0 H0 h' H' ds l
 | [],_,e=>e
 | _::_,_,⟨i,is,L,e1,e2,e3,e4,e5,e6,e7,e8⟩=>⟨i,is,L,e1,e2,hρ _ _ _ e3,(hf i e5 _ e4).1,(hf i e5 _ e4).2,e6,e7,e8.step hρ hf⟩
structure St (w0:World) (ρ0:Locs) (h0 H0:za) (n:Nat) (s:zcf) (h:za) (a:Act) (w:World):Prop where
 ex: ∃ ρ H,ρ0.le ρ /\ h.le H /\ Fr h0 H0 h H /\ R w0 ρ H w /\ SRel ρ s a /\ ∃ l,Dfs ρ h0 H0 h H a.defers l
 size:n <= a.tmps.size
def zqe (n:Nat) (o:Oper):Bool:=
 match o.dst with
 | none=>true
 | some d=>Nat.blt d n
section
variable {P:Program} {w0:World} {ρ0:Locs} {h0 H0:za} {n:Nat} {s:zcf} {h:za} {a:Act} {w:World} {ops:Array Oper} {Q:Exit->Act->World->Prop} {r:Option Nat} {m:Nat}
theorem ziw {i:Nat} {o:Oper} (hi:ops[i]? =some o) (hd:zqe n o=true) (hS:St w0 ρ0 h0 H0 n s h a w) {K:zQ} (hx:(zcq P ops.toList o s h).run (AC P) h K):
  wpOpIn (WF r) m P ops Q i (fun a' w'=> ∃ v h',K v h' /\ St w0 ρ0 h0 H0 n (putS s o.dst v) h' a' w' /\ ∃ u,a'=a.put o.dst u) a w:=by
 obtain ⟨ρ,H,q1,q2,q3,q4,q5,lds,q6⟩:=hS.ex
 have hdst: ∀ k,o.dst=some k->k<a.tmps.size:=fun k hk=>by
  unfold zqe at hd
  rw [hk] at hd
  have hd':Nat.blt k n=true:=hd
  rw [Nat.blt_eq] at hd'
  exact Nat.lt_of_lt_of_le hd' hS.size
 have hput: ∀ v,(a.put o.dst v).defers=a.defers /\ n <= (a.put o.dst v).tmps.size:=fun v=>by
  have:=hS.size
  cases o.dst with
  | none=>exact ⟨rfl,by assumption⟩
  | some d=>exact ⟨rfl,by simpa [Act.put] using this⟩
 have go:(shOf P o.op (evS s) h).run (AC P) h K->o.wpIn (WF r) m P a w (fun a' w'=> ∃ v h',K v h' /\ St w0 ρ0 h0 H0 n (putS s o.dst v) h' a' w' /\ ∃ u,a'=a.put o.dst u) Q:=fun hx=>by
  refine Oper.wpIn_mono ?_ (op_sound (Q:=Q) q4 q2 q5 (zkh.2 hx) (fun c hc=>by rw [hc] at hx;exact hx.elim) r m)
  rintro a' w' ⟨v,hA,rfl⟩
  obtain ⟨x,ρ',h',H',k1,k2,k3,k4,k5,k6⟩:=hA.ex
  exact ⟨x,h',k3,⟨⟨ρ',H',Locs.le_trans q1 k1,k4,q3.trans k5,k6,(q5.mono k1).put k2 hdst,lds,by rw [(hput v).1];exact q6.step k1 k5⟩,(hput v).2⟩,v,rfl⟩
 unfold wpOpIn
 simp only [hi]
 unfold zcq at hx
 cases hg:o.guard with
 | none=>
  simp only [hg] at hx
  have:Region.wanted o (yielded ops a.tmps)=true:=by simp [Region.wanted,hg]
  rw [if_pos this]
  exact go hx
 | some jb=>
  obtain ⟨j,b⟩:=jb
  simp only [hg] at hx
  cases ht:zjv ops.toList j with
  | none=>simp only [ht] at hx;exact hx.elim
  | some t=>
   simp only [ht] at hx
   cases hst:s t<;>simp only [hst] at hx<;>(try exact hx.elim)
   case tup l=>
    cases l with
    | cons _ _=>exact hx.elim
    | nil=>
     have hr:=q5 t
     rw [hst] at hr
     obtain ⟨l,hr',hl⟩:=hr
     have hl:l=[]:=hl
     subst hl
     have hy:yielded ops a.tmps j=none:=by
      unfold yielded
      have hds:(ops[j]?).bind (·.dst)=some t:=by unfold zjv at ht;simpa using ht
      rw [hds]
      simp only [Option.bind_some]
      cases hv:a.tmps[t]? with
      | none=>rfl
      | some v=>simp [hv] at hr';subst hr';rfl
     have: ¬ Region.wanted o (yielded ops a.tmps)=true:=by simp [Region.wanted,hg,hy]
     rw [if_neg this]
     exact ⟨fun _ _=>trivial,.tup [],h,hx,⟨⟨ρ,H,q1,q2,q3,q4,q5.put (x:= .tup []) (v:=Go.undef) ⟨[],rfl,rfl⟩ hdst,lds,by rw [(hput _).1];exact q6⟩,(hput _).2⟩,_,rfl⟩
   rename_i b'
   have hr:=q5 t
   rw [hst] at hr
   have hy:yielded ops a.tmps j=some b':=by
    unfold yielded
    have hds:(ops[j]?).bind (·.dst)=some t:=by unfold zjv at ht;simpa using ht
    rw [hds]
    simp only [Option.bind_some]
    have hr':a.tmps.getD t Go.undef= .bool b':=hr
    cases hv:a.tmps[t]? with
    | none=>simp [hv,Go.undef] at hr'
    | some v=>simp [hv] at hr';subst hr';rfl
   by_cases e:b'=b
   ·rw [if_pos e] at hx
    have:Region.wanted o (yielded ops a.tmps)=true:=by simp [Region.wanted,hg,hy,e]
    rw [if_pos this]
    exact go hx
   ·rw [if_neg e] at hx
    have: ¬ Region.wanted o (yielded ops a.tmps)=true:=by simp [Region.wanted,hg,hy,e]
    rw [if_neg this]
    exact ⟨fun _ _=>trivial,.tup [],h,hx,⟨⟨ρ,H,q1,q2,q3,q4,q5.put (x:= .tup []) (v:=Go.undef) ⟨[],rfl,rfl⟩ hdst,lds,by rw [(hput _).1];exact q6⟩,(hput _).2⟩,_,rfl⟩
theorem ops_sound (hd: ∀ o∈ops.toList,zqe n o=true) {Qn:zcf->za->Prop} (hQ: ∀ s h a w,St w0 ρ0 h0 H0 n s h a w->Qn s h->Q .normal a w):
  ∀ (l:List Oper) (i:Nat) (s:zcf) (h:za) (a:Act) (w:World),ops.toList.drop i=l->opsWp P (AC P) ops.toList l Qn s h->St w0 ρ0 h0 H0 n s h a w->wpOpsIn (WF r) m P ops Q (List.range' i l.length) a w
 | [],i,s,h,a,w,_,hx,hS=>hQ s h a w hS hx
 | o::r,i,s,h,a,w,hl,hx,hS=>by
  have hi:ops[i]? =some o:=by
   have:(ops.toList.drop i)[0]? =some o:=by rw [hl];rfl
   simpa using this
  rw [List.length_cons,List.range'_succ,wpOpsIn_cons]
  have hx':(zcq P ops.toList o s h).run (AC P) h fun v h=>opsWp P (AC P) ops.toList r Qn (putS s o.dst v) h:=zjx.1 hx
  refine wpOpIn_mono ?_ (ziw (Q:=Q) hi (hd o (by have:=Array.mem_of_getElem? hi;simpa using this)) hS hx')
  rintro a' w' ⟨v,h',hk,hS',_⟩
  refine ops_sound hd hQ r (i+1) _ h' a' w' ?_ hk hS'
  rw [<- List.tail_drop,hl];rfl
theorem Oper.wpIn_some {o:Oper} {K:Act->World->Prop} (hh:o.wpIn (WF r) m P a w K fun _ _ _=>False): ∃ a' w',K a' w':=by
 have hh:=hh.2
 generalize (o.semAt (WF r).round a.eval).run P w=res at hh
 cases res with
 | ok x w'=>
  cases x<;>simp only [Oper.uponIn] at hh<;>(try exact ⟨_,_,hh⟩)<;>(try exact hh.elim)
  ·obtain ⟨e,w'',_,hR,_⟩:=hh.2.2 [] (room_wide _)
   cases e with
   | returned v=>exact ⟨_,_,hR⟩
   | panicked _=>exact hR.elim
   | outgrown=>obtain ⟨_,_,hR⟩:=hR;exact hR.elim
  ·obtain ⟨e,w'',hR,_⟩:=hh.2.2 default [] (room_wide _)
   cases e with
   | returned v=>exact ⟨_,_,hR⟩
   | panicked _=>exact hR.elim
   | outgrown=>obtain ⟨_,_,hR⟩:=hR;exact hR.elim
  ·obtain ⟨v,w'',hR,_⟩:=hh.2 default [] (room_wide _)
   exact ⟨_,_,hR⟩
 | halt x w'=>cases x<;>simp only [Oper.uponIn] at hh
theorem zmb {i:Nat} {o:Oper} (hi:ops[i]? =some o) {K:Act->World->Prop} (hh:wpOpIn (WF r) m P ops (fun _ _ _=>False) i K a w): ∃ a' w',K a' w':=by
 unfold wpOpIn at hh
 simp only [hi] at hh
 split at hh
 ·exact Oper.wpIn_some hh
 ·exact ⟨_,_,hh.2⟩
theorem notFail (hd: ∀ o∈ops.toList,zqe n o=true) (t:zjj) (ht:Good P t) (ys:List zjj) (Qn:zcf->za->Prop) (hte:t.1.k≠ .effect) (htl:t.1.k≠ .load) (htr:t.1.k≠ .read) (htc:t.1.k≠ .conv):
  ∀ (xs:List zjj) (s:zcf) (h:za) (a:Act) (w:World),(∀ x∈xs,ops[x.1.i]? =some x.1.o)->(∀ x∈xs,x.1.o.apart ops t.1.o=true)->zfl P (AC P) ops.toList (xs++t::ys) Qn s h->St w0 ρ0 h0 H0 n s h a w ->
   zcq P ops.toList t.1.o s h≠ .fail
 | [],s,h,a,w,_,_,hx,_=>fun e=>by
  rw [List.nil_append,zer,e] at hx
  exact hx
 | x::xs,s,h,a,w,hi,hap,hx,hS=>by
  rw [List.cons_append,zer] at hx
  have hix:=hi x (by simp)
  obtain ⟨a',w',v,h',hk,hS',_⟩:=zmb (r:=none) (m:=0) hix (ziw (Q:=fun _ _ _=>False) hix (hd _ (by have:=Array.mem_of_getElem? hix;simpa using this)) hS hx)
  have r:=notFail hd t ht ys Qn hte htl htr htc xs _ h' a' w' (fun y hy=>hi y (by simp [hy])) (fun y hy=>hap y (by simp [hy])) hk.2 hS'
  obtain ⟨ap1,_,_⟩:=zj2 (hap x (by simp))
  rw [zh5 fun d hd=>ap1 d hd] at r
  have hk:=ht.kind
  cases e:t.1.k with
  | effect=>exact absurd e hte
  | load=>exact absurd e htl
  | read=>exact absurd e htr
  | conv=>exact absurd e htc
  | pure=>rw [e] at hk;rw [(zg5 (h:=h) (s:=s) (ops:=ops.toList) hk.symm).1 h h'];exact r
  | alloc=>rw [e] at hk;rw [(zgd (h:=h) (s:=s) (ops:=ops.toList) hk.symm).1 h h'];exact r
theorem wanted_of {ρ:Locs} {o:Oper} (hr:SRel ρ s a):(Region.wanted o (yielded ops a.tmps)=true /\ ∀ h,zcq P ops.toList o s h=shOf P o.op (evS s) h) \/ (∃ v,∀ h,zcq P ops.toList o s h= .val v) \/ ∀ h,zcq P ops.toList o s h= .fail:=by
 unfold zcq
 cases hg:o.guard with
 | none=>exact .inl ⟨by simp [Region.wanted,hg],fun _=>rfl⟩
 | some jb=>
  obtain ⟨j,b⟩:=jb
  simp only
  cases ht:zjv ops.toList j with
  | none=>exact .inr (.inr fun _=>rfl)
  | some t=>
   simp only
   cases hst:s t<;>(try exact .inr (.inr fun _=>rfl))
   case tup l=>
    cases l with
    | cons _ _=>exact .inr (.inr fun _=>rfl)
    | nil=>exact .inr (.inl ⟨_,fun _=>rfl⟩)
   rename_i b'
   have hr:=hr t
   rw [hst] at hr
   have hy:yielded ops a.tmps j=some b':=by
    unfold yielded
    have hds:(ops[j]?).bind (·.dst)=some t:=by unfold zjv at ht;simpa using ht
    rw [hds]
    simp only [Option.bind_some]
    have hr':a.tmps.getD t Go.undef= .bool b':=hr
    cases hv:a.tmps[t]? with
    | none=>simp [hv,Go.undef] at hr'
    | some v=>simp [hv] at hr';subst hr';rfl
   by_cases e:b'=b
   ·exact .inl ⟨by simp [Region.wanted,hg,hy,e],fun _=>if_pos e⟩
   ·exact .inr (.inl ⟨_,fun _=>if_neg e⟩)
theorem convNew (hd: ∀ o∈ops.toList,zqe n o=true) (t:zjj) {src dst:TypeId} {y:Operand} {e:TypeId} (hop:t.1.o.op= .convert src dst y) (hsh: ∀ (s:zcf) (h:za),shOf P t.1.o.op (evS s) h=bif Nat.beq src dst&&isU8 P e then Sh.conv h (evS s y) else .fail) (ys:List zjj) (Qn:zcf->za->Prop):
  ∀ (xs:List zjj) (s:zcf) (h:za) (a:Act) (w:World),(∀ x∈xs,ops[x.1.i]? =some x.1.o)->(∀ x∈xs,x.1.o.apart ops t.1.o=true)->(∀ h,zcq P ops.toList t.1.o s h=shOf P t.1.o.op (evS s) h)->zfl P (AC P) ops.toList (xs++t::ys) Qn s h->St w0 ρ0 h0 H0 n s h a w ->
   src=dst /\ isU8 P e=true /\ ∃ ad m c,a.eval y= .slice (some ad) m c /\ w0.heap.size <= ad.block
 | [],s,h,a,w,_,_,hst,hx,hS=>by
  rw [List.nil_append,zer,hst,hsh] at hx
  cases hu:Nat.beq src dst&&isU8 P e with
  | false=>rw [hu] at hx;exact hx.elim
  | true=>
   rw [hu] at hx
   rw [Bool.and_eq_true] at hu
   refine ⟨Nat.eq_of_beq_eq_true hu.1,hu.2,?_⟩
   have hx:(Sh.conv h (evS s y)).run (AC P) h _:=hx
   obtain ⟨ρ,H,q1,q2,q3,q4,q5,_⟩:=hS.ex
   have hr:=zc1 q5 y
   unfold Sh.conv at hx
   split at hx<;>(try exact hx.elim)
   rename_i id g off m es cp he
   split at hx<;>(try exact hx.elim)
   rename_i b hb
   split at hx<;>(try exact hx.elim)
   rename_i hc
   rw [Bool.and_eq_true,Bool.and_eq_true,Nat.blt_eq] at hc
   obtain ⟨hown,hg,hn⟩:=hc
   obtain ⟨hi,hg⟩:=Option.isSome_iff_exists.1 hg
   obtain ⟨_,L,arr,e',fr,c2,c3,c4,c5,c6,c7⟩:=(q4.blk id b (q2 id b hb)).gen g hi (zep hg)
   rw [he] at hr
   obtain ⟨L',hL',hlo,hor⟩:=hr
   rw [c2] at hL'
   cases hL'
   rcases hor with ⟨cap,ev,_⟩|⟨q,_⟩
   ·exact ⟨_,_,_,ev,(c6 hown).1⟩
   ·omega
 | x::xs,s,h,a,w,hi,hap,hst,hx,hS=>by
  rw [List.cons_append,zer] at hx
  have hix:=hi x (by simp)
  obtain ⟨a',w',v,h',hk,hS',u,rfl⟩:=zmb (r:=none) (m:=0) hix (ziw (Q:=fun _ _ _=>False) hix (hd _ (by have:=Array.mem_of_getElem? hix;simpa using this)) hS hx)
  obtain ⟨ap1,_,_⟩:=zj2 (hap x (by simp))
  have hne: ∀ d,x.1.o.dst=some d->y≠ .tmp d:=fun d hd' e=>ap1 d hd' (by
   subst e
   exact List.mem_append_left _ (List.mem_filterMap.2 ⟨.tmp d,by rw [hop];simp [Op.operands],rfl⟩))
  have r:=convNew hd t hop hsh ys Qn xs _ h' _ w' (fun y hy=>hi y (by simp [hy])) (fun y hy=>hap y (by simp [hy])) (fun h1=>by rw [zh5 fun d hd=>ap1 d hd,hst,hsh,hsh,evS_put hne]) hk.2 hS'
  rw [Act.eval_put hne] at r
  exact r
theorem conv_step {i:Nat} {o:Oper} (hi:ops[i]? =some o) (hd:zqe n o=true) (hS:St w0 ρ0 h0 H0 n s h a w) (hw:Region.wanted o (yielded ops a.tmps)=true) {src:TypeId} {y:Operand} {e:TypeId} (hop:o.op= .convert src src y) (hs':P.underlying src=some (.slice e)) (hu:isU8 P e=true)
  (hb: ∃ ad m c,a.eval y= .slice (some ad) m c /\ w0.heap.size <= ad.block):wpOpIn (WF r) m P ops Q i (fun a' w'=>St w0 ρ0 h0 H0 n (putS s o.dst (evS s y)) h a' w') a w:=by
 obtain ⟨ad,mm,c,ev,hblk⟩:=hb
 obtain ⟨ρ,H,q1,q2,q3,q4,q5,lds,q6⟩:=hS.ex
 obtain ⟨he,_⟩:=zm7 hu
 have hdst: ∀ k,o.dst=some k->k<a.tmps.size:=fun k hk=>by
  unfold zqe at hd
  rw [hk] at hd
  have hd':Nat.blt k n=true:=hd
  rw [Nat.blt_eq] at hd'
  exact Nat.lt_of_lt_of_le hd' hS.size
 have hput: ∀ v,(a.put o.dst v).defers=a.defers /\ n <= (a.put o.dst v).tmps.size:=fun v=>by
  have:=hS.size
  cases o.dst with
  | none=>exact ⟨rfl,by assumption⟩
  | some d=>exact ⟨rfl,by simpa [Act.put] using this⟩
 have hv:VRel ρ (evS s y) (.slice (some ad) mm c):=by have:=zc1 q5 y;rw [ev] at this;exact this
 have fin: ∀ w',R w0 ρ H w'->(execOp a.eval o).run P w= .ok (.value (.slice (some ad) mm c)) w'->o.wpIn (WF r) m P a w (fun a' w'=>St w0 ρ0 h0 H0 n (putS s o.dst (evS s y)) h a' w') Q:=fun w' hR hrun=>by
  refine Oper.wpIn_mono ?_ (zel (P:=P) (Q:=Q) (K:=fun v h'=>v=evS s y /\ h'=h) hrun ⟨⟨evS s y,ρ,h,H,Locs.le_refl ρ,hv,⟨rfl,rfl⟩,q2,Fr.refl h H,hR⟩⟩ (fun c hc=>by rw [hop] at hc;cases hc) r m)
  rintro a' w' ⟨v,hA,rfl⟩
  obtain ⟨x,ρ',h',H',k1,k2,⟨rfl,rfl⟩,k4,k5,k6⟩:=hA.ex
  exact ⟨⟨ρ',H',Locs.le_trans q1 k1,k4,q3.trans k5,k6,(q5.mono k1).put k2 hdst,lds,by rw [(hput v).1];exact q6.step k1 k5⟩,(hput v).2⟩
 unfold wpOpIn
 simp only [hi]
 rw [if_pos hw]
 cases hsp:w.shape? ad.block with
 | none=>exact fin w q4 (by simp [execOp,hop,ev,convert,run_underlying hs',run_underlying he,markStringish,hsp])
 | some p=>
  obtain ⟨e',sz⟩:=p
  have hat: ∃ arr fr,w.heap[ad.block]? =some (.cells arr e' fr) /\ arr.size=sz:=by
   unfold World.shape? at hsp
   split at hsp
   ·rename_i c el fr hc
    cases hsp
    exact ⟨c,fr,hc,rfl⟩
   ·cases hsp
  obtain ⟨arr,fr,hat,rfl⟩:=hat
  exact fin _ (q4.freeze hblk hat) (by simp [execOp,hop,ev,convert,run_underlying hs',run_underlying he,markStringish,hsp])
structure Inv (P:Program) (ops:Array Oper) (ms:List Nat) (rem:List zjj) (zio:Array Bool):Prop where
 sz:zio.size=ops.size
 open_: ∀ i,i<ops.size->(zio.getD i true=false↔ ∃ t∈rem,t.1.i=i)
 at_: ∀ t∈rem,ops[t.1.i]? =some t.1.o /\ ms[t.1.i]? =some t.1.m
 good: ∀ t∈rem,Good P t
 pair:rem.Pairwise (Pair ops)
 nodup:(rem.map (·.1.i)).Pairwise (· ≠ ·)
 down: ∀ i,zio.getD i false=true-> ∀ x,(ms.getD i 0).testBit x=true->zio.getD x false=true
def MaskOk (ops:Array Oper) (ms:List Nat):Prop:=
 ∀ (i:Nat) (o:Oper),ops[i]? =some o->(∀ e∈o.after,Region.binds .any e=true->(ms.getD i 0).testBit e.on=true /\ e.on<ops.size) /\
  ∀ x,(ms.getD i 0).testBit x=true-> ∃ e∈o.after,Region.binds .any e=true /\ (x=e.on \/ (ms.getD e.on 0).testBit x=true)
theorem zqi {α:Type} {r:α->α->Prop} {xs ys:List α} {t:α} (hp:(xs++t::ys).Pairwise r): ∀ x∈xs,r x t:=fun x hx=>
 (List.pairwise_append.1 hp).2.2 x hx t (by simp)
theorem zrd {mm:Nat} {ms:List Nat} (hms:MaskOk ops ms) (hd: ∀ o∈ops.toList,zqe n o=true) {Qn:zcf->za->Prop} (hQ: ∀ s h a w,St w0 ρ0 h0 H0 n s h a w->Qn s h->Q .normal a w):
  ∀ (m:Nat) (rem:List zjj) (zio:Array Bool) (s:zcf) (h:za) (a:Act) (w:World),rem.length=m->Inv P ops ms rem zio->zfl P (AC P) ops.toList rem Qn s h->St w0 ρ0 h0 H0 n s h a w->wpAnyIn (WF r) mm P .any ops Q m zio a w
 | 0,rem,zio,s,h,a,w,hl,inv,hx,hS=>by
  have:rem=[]:=List.eq_nil_of_length_eq_zero hl
  subst this
  refine ⟨?_,hQ s h a w hS hx⟩
  apply List.eq_nil_iff_forall_not_mem.2
  intro j hj
  obtain ⟨h1,o,ho,_⟩:=mem_ready.1 hj
  have hlt:=(Array.getElem?_eq_some_iff.1 ho).1
  obtain ⟨t,ht,_⟩:=(inv.open_ j hlt).1 h1
  cases ht
 | m+1,rem,zio,s,h,a,w,hl,inv,hx,hS=>by
  have getD_of: ∀ j,j<ops.size->zio.getD j true=zio.getD j false:=fun j hj=>by
   have:j<zio.size:=by rw [inv.sz];exact hj
   simp [this]
  refine ⟨fun hr=> ?_,fun i hi=> ?_⟩
  ·
   exfalso
   cases rem with
   | nil=>simp at hl
   | cons t r=>
    obtain ⟨ho,hm⟩:=inv.at_ t (by simp)
    have hlt:=(Array.getElem?_eq_some_iff.1 ho).1
    have hmem:t.1.i∈Region.ready .any ops zio:=by
     refine mem_ready.2 ⟨(inv.open_ _ hlt).2 ⟨t,by simp,rfl⟩,t.1.o,ho,fun e he hb=> ?_⟩
     obtain ⟨hbit,hlt2⟩:=(hms _ _ ho).1 e he hb
     have hmD:ms.getD t.1.i 0=t.1.m:=by simp [List.getD,hm]
     rw [hmD] at hbit
     cases hle:zio.getD e.on false with
     | true=>rfl
     | false=>
      exfalso
      obtain ⟨y,hy,hyi⟩:=(inv.open_ _ hlt2).1 (by rw [getD_of _ hlt2];exact hle)
      rcases List.mem_cons.1 hy with rfl|hy
      ·rw [<- hyi] at hbit
       rw [(inv.good y (by simp)).self] at hbit;cases hbit
      ·have:=((List.pairwise_cons.1 inv.pair).1 y hy).notBehind
       rw [hyi,hbit] at this;cases this
    rw [hr] at hmem
    cases hmem
  ·obtain ⟨h1,o,ho,hall⟩:=mem_ready.1 hi
   have hlt:=(Array.getElem?_eq_some_iff.1 ho).1
   obtain ⟨t,ht,rfl⟩:=(inv.open_ i hlt).1 h1
   obtain ⟨xs,ys,rfl⟩:=List.append_of_mem ht
   obtain ⟨ho',hm⟩:=inv.at_ t ht
   rw [ho] at ho'
   cases ho'
   have hmD:ms.getD t.1.i 0=t.1.m:=by simp [List.getD,hm]
   have hover: ∀ x,t.1.m.testBit x=true->zio.getD x false=true:=fun x hx=>by
    rw [<- hmD] at hx
    obtain ⟨e,he,hb,hor⟩:=(hms _ _ ho).2 x hx
    have hl:=hall e he hb
    rcases hor with rfl|hor
    ·exact hl
    ·exact inv.down _ hl x hor
   have hunord: ∀ x∈xs,t.1.m.testBit x.1.i=false:=fun x hx=>by
    cases hb:t.1.m.testBit x.1.i with
    | false=>rfl
    | true=>
     have h2:=hover _ hb
     obtain ⟨hox,_⟩:=inv.at_ x (by simp [hx])
     have hltx:=(Array.getElem?_eq_some_iff.1 hox).1
     have:=(inv.open_ _ hltx).2 ⟨x,by simp [hx],rfl⟩
     rw [getD_of _ hltx,h2] at this;cases this
   have hpt: ∀ x∈xs,Pair ops x t:=zqi inv.pair
   have hap: ∀ x∈xs,x.1.o.apart ops t.1.o=true:=fun x hx=>((hpt x hx).free.resolve_left (by rw [hunord x hx];simp)).2
   have hpxs:xs.Pairwise (Pair ops):=(List.pairwise_append.1 inv.pair).1
   have hdt:zqe n t.1.o=true:=hd _ (by have:=Array.mem_of_getElem? ho;simpa using this)
   have both:wpOpIn (WF r) mm P ops Q t.1.i (fun a' w'=> ∃ v h',zfl P (AC P) ops.toList (xs++ys) Qn (putS s t.1.o.dst v) h' /\ St w0 ρ0 h0 H0 n (putS s t.1.o.dst v) h' a' w') a w:=by
    by_cases hc:t.1.k= .conv
    ·have hkd:=(inv.good t ht).kind
     rw [hc] at hkd
     obtain ⟨v,hv⟩:=zo8 (s:=s) (ops:=ops.toList) hkd.symm
     have hk:=bubbleC t (inv.good t ht) hc ys Qn xs s h v hv hpt hunord hx
     obtain ⟨ρ,H,_,_,_,_,q5,_⟩:=hS.ex
     rcases wanted_of (P:=P) (ops:=ops) (o:=t.1.o) q5 with ⟨hw,hst⟩|⟨u,hu⟩|hf
     ·obtain ⟨src,dst,y,e,e',hop,hs',_,hsh⟩:=znm (P:=P) (ρ:=evS s) hkd.symm
      have hsh': ∀ (s:zcf) (h:za),shOf P t.1.o.op (evS s) h=bif Nat.beq src dst&&isU8 P e then Sh.conv h (evS s y) else .fail:=fun s h=>by
       obtain ⟨src',dst',y',e1,e1',hop',hs1,_,hsh'⟩:=znm (P:=P) (ρ:=evS s) hkd.symm
       rw [hop] at hop'
       cases hop'
       rw [hs'] at hs1
       cases hs1
       exact hsh' h
      obtain ⟨hsd,hu8,hb⟩:=convNew hd t hop hsh' ys Qn xs s h a w (fun x hx=>(inv.at_ x (by simp [hx])).1) hap hst hx hS
      subst hsd
      refine wpOpIn_mono ?_ (conv_step (Q:=Q) ho hdt hS hw hop hs' hu8 hb)
      intro a' w' hS'
      have ev:v=evS s y \/ ∀ h,zcq P ops.toList t.1.o s h= .fail:=by
       by_cases hall: ∀ h,zcq P ops.toList t.1.o s h= .fail
       ·exact .inr hall
       ·left
        obtain ⟨h1,hne⟩:=Classical.not_forall.1 hall
        have h2:=(hv h1).resolve_right hne
        rw [hst,hsh] at h2
        cases hbb:Nat.beq src src&&isU8 P e with
        | false=>rw [hbb] at h2;cases h2
        | true=>
         rw [hbb] at h2
         rcases conv_val h1 (evS s y) with e1|e1
         ·have h3:Sh.conv h1 (evS s y)= .val v:=h2
          rw [e1] at h3;cases h3;rfl
         ·have h3:Sh.conv h1 (evS s y)= .val v:=h2
          rw [e1] at h3;cases h3
      rcases ev with rfl|hall
      ·exact ⟨_,h,hk,hS'⟩
      ·exact ⟨_,h,bubbleC t (inv.good t ht) hc ys Qn xs s h (evS s y) (fun h=> .inr (hall h)) hpt hunord hx,hS'⟩
     ·have e:u=v \/ False:=by
       rcases hv h with e|e
       ·rw [hu] at e;cases e;exact .inl rfl
       ·rw [hu] at e;cases e
      rcases e with rfl|e
      ·refine wpOpIn_mono ?_ (ziw (Q:=Q) (K:=fun v' h'=>v'=u /\ h'=h) ho hdt hS (by rw [hu];exact ⟨rfl,rfl⟩))
       rintro a' w' ⟨_,_,⟨rfl,rfl⟩,hS',_⟩
       exact ⟨_,_,hk,hS'⟩
      ·exact e.elim
     ·exfalso
      have: ∀ (xs:List zjj) (s:zcf) (h:za) (a:Act) (w:World),(∀ x∈xs,ops[x.1.i]? =some x.1.o)->(∀ x∈xs,x.1.o.apart ops t.1.o=true)->(∀ h,zcq P ops.toList t.1.o s h= .fail)->zfl P (AC P) ops.toList (xs++t::ys) Qn s h->St w0 ρ0 h0 H0 n s h a w->False:=by
       intro xs
       induction xs with
       | nil=>intro s h a w _ _ hf hx _;rw [List.nil_append,zer,hf] at hx;exact hx
       | cons x xs ih=>
        intro s h a w hi hap hf hx hS
        rw [List.cons_append,zer] at hx
        have hix:=hi x (by simp)
        obtain ⟨a',w',v,h',hk,hS',_⟩:=zmb (r:=none) (m:=0) hix (ziw (Q:=fun _ _ _=>False) hix (hd _ (by have:=Array.mem_of_getElem? hix;simpa using this)) hS hx)
        obtain ⟨ap1,_,_⟩:=zj2 (hap x (by simp))
        exact ih _ h' a' w' (fun y hy=>hi y (by simp [hy])) (fun y hy=>hap y (by simp [hy])) (fun h1=>by rw [zh5 fun d hd=>ap1 d hd];exact hf h1) hk.2 hS'
      exact this xs s h a w (fun x hx=>(inv.at_ x (by simp [hx])).1) hap hf hx hS
    ·have hb:=bubble t (inv.good t ht) ys Qn xs s h [] (by simp) (fun _=>rfl) (by simp) (fun x hx=>inv.good x (by simp [hx])) hpt hunord hpxs hc
      (fun c1 c2 c3=>notFail hd t (inv.good t ht) ys Qn c1 c2 c3 hc xs s h a w (fun x hx=>(inv.at_ x (by simp [hx])).1) hap hx hS) hx
     refine wpOpIn_mono ?_ (ziw (Q:=Q) ho hdt hS hb)
     rintro a' w' ⟨v,h',⟨_,hk⟩,hS',_⟩
     exact ⟨v,h',hk,hS'⟩
   refine wpOpIn_mono ?_ both
   rintro a' w' ⟨v,h',hk,hS'⟩
   refine zrd hms hd hQ m (xs++ys) _ _ h' a' w' (by simp only [List.length_append,List.length_cons] at hl ⊢;omega) ?_ hk hS'
   have hsub:(xs++ys).Sublist (xs++t::ys):=List.Sublist.append_left (List.sublist_cons_self t ys) xs
   have hnd: ∀ y∈xs++ys,y.1.i≠t.1.i:=fun y hy=>by
    have hn:=inv.nodup
    rw [List.map_append,List.map_cons] at hn
    rcases List.mem_append.1 hy with hy|hy
    ·exact (List.pairwise_append.1 hn).2.2 _ (List.mem_map.2 ⟨y,hy,rfl⟩) _ (by simp)
    ·have:=((List.pairwise_cons.1 (List.pairwise_append.1 hn).2.1).1 _ (List.mem_map.2 ⟨y,hy,rfl⟩))
     exact fun e=>this e.symm
   exact {
    sz:=by simpa using inv.sz
    open_:=fun i hi=>by
     by_cases e:t.1.i=i
     ·subst e
      have:(zio.setIfInBounds t.1.i true).getD t.1.i true=true:=by simp
      rw [this]
      constructor
      ·intro h;cases h
      ·rintro ⟨y,hy,e⟩;exact absurd e (hnd y hy)
     ·rw [getD_set_ne true e,inv.open_ i hi]
      constructor
      ·rintro ⟨y,hy,e'⟩
       refine ⟨y,?_,e'⟩
       rcases List.mem_append.1 hy with hy|hy
       ·exact List.mem_append_left _ hy
       ·rcases List.mem_cons.1 hy with rfl|hy
        ·exact absurd e' e
        ·exact List.mem_append_right _ hy
      ·rintro ⟨y,hy,e'⟩;exact ⟨y,hsub.subset hy,e'⟩
    at_:=fun y hy=>inv.at_ y (hsub.subset hy)
    good:=fun y hy=>inv.good y (hsub.subset hy)
    pair:=inv.pair.sublist hsub
    nodup:=inv.nodup.sublist (hsub.map _)
    down:=fun i hi x hx=>by
     by_cases e:t.1.i=i
     ·subst e
      rw [hmD] at hx
      exact getD_set_true (hover x hx)
     ·rw [getD_set_ne false e] at hi
      exact getD_set_true (inv.down i hi x hx) }
end
end Go.Ab
namespace Go.Ab
open Go.RowKit (Below)
def zpz (o:Oper) (acc:List Nat):Nat:=o.after.toList.foldl (fun m e=>bif Region.binds .any e then m ||| 2 ^ e.on ||| acc.getD e.on 0 else m) 0
theorem znz (acc:List Nat): ∀ (l:List Edge) (m x:Nat),(l.foldl (fun m e=>bif Region.binds .any e then m ||| 2 ^ e.on ||| acc.getD e.on 0 else m) m).testBit x=true ↔
  m.testBit x=true \/ ∃ e∈l,Region.binds .any e=true /\ (x=e.on \/ (acc.getD e.on 0).testBit x=true)
 | [],m,x=>by simp
 | e::l,m,x=>by
  rw [List.foldl_cons,znz acc l]
  cases hb:Region.binds .any e with
  | false=>
   simp only [cond_false,List.mem_cons]
   constructor
   ·rintro (h|⟨e',he,h⟩)
    ·exact .inl h
    ·exact .inr ⟨e',.inr he,h⟩
   ·rintro (h|⟨e',rfl|he,h1,h2⟩)
    ·exact .inl h
    ·rw [hb] at h1;cases h1
    ·exact .inr ⟨e',he,h1,h2⟩
  | true=>
   simp only [cond_true,Nat.testBit_or,Nat.testBit_two_pow,Bool.or_eq_true,decide_eq_true_eq,List.mem_cons]
   constructor
   ·rintro (((h|h)|h)|⟨e',he,h⟩)
    ·exact .inl h
    ·exact .inr ⟨e,.inl rfl,hb,.inl h.symm⟩
    ·exact .inr ⟨e,.inl rfl,hb,.inr h⟩
    ·exact .inr ⟨e',.inr he,h⟩
   ·rintro (h|⟨e',rfl|he,h1,h2⟩)
    ·exact .inl (.inl (.inl h))
    ·rcases h2 with h2|h2
     ·exact .inl (.inl (.inr h2.symm))
     ·exact .inl (.inr h2)
    ·exact .inr ⟨e',he,h1,h2⟩
theorem zob: ∀ (l:List Oper) (acc:List Nat),(zhb l acc).length=acc.length+l.length /\ (∀ i,i<acc.length->(zhb l acc).getD i 0=acc.getD i 0) /\
  ∀ (i:Nat) (o:Oper),l[i]? =some o->(zhb l acc).getD (acc.length+i) 0=zpz o ((zhb l acc).take (acc.length+i))
 | [],acc=>⟨by simp [zhb],fun _ _=>rfl,fun i o h=>by simp at h⟩
 | o::l,acc=>by
  have e:zhb (o::l) acc=zhb l (acc++[zpz o acc]):=rfl
  obtain ⟨h1,h2,h3⟩:=zob l (acc++[zpz o acc])
  rw [e]
  refine ⟨by rw [h1];simp;omega,fun i hi=> ?_,fun i o' ho=> ?_⟩
  ·rw [h2 i (by simp;omega)]
   simp [List.getD,List.getElem?_append_left hi]
  ·cases i with
   | zero=>
    simp at ho
    subst ho
    rw [Nat.add_zero,h2 acc.length (by simp)]
    have ht:(zhb l (acc++[zpz o acc])).take acc.length=acc:=by
     apply List.ext_getElem?
     intro j
     by_cases hj:j<acc.length
     ·rw [List.getElem?_take_of_lt hj]
      have:=h2 j (by simp;omega)
      simp only [List.getD,List.getElem?_append_left hj] at this
      have hl:j<(zhb l (acc++[zpz o acc])).length:=by rw [h1];simp;omega
      rw [List.getElem?_eq_getElem hl,List.getElem?_eq_getElem hj] at this ⊢
      simpa using this
     ·rw [List.getElem?_eq_none (by rw [List.length_take];omega),List.getElem?_eq_none (by omega)]
    rw [ht]
    simp [List.getD]
   | succ i=>
    have:=h3 i o' (by simpa using ho)
    simp only [List.length_append,List.length_singleton] at this
    rw [show acc.length+(i+1)=acc.length+1+i by omega]
    exact this
theorem maskOk {ops:Array Oper} (hb:ops.toList.all (fun o=>o.after.toList.all fun e=>Nat.blt e.on ops.size)=true):MaskOk ops (zhb ops.toList []):=by
 obtain ⟨h1,_,h3⟩:=zob ops.toList []
 intro i o ho
 have hsp:=h3 i o (by simpa using ho)
 simp only [List.length_nil,Nat.zero_add] at hsp h1
 have hi:i<ops.size:=(Array.getElem?_eq_some_iff.1 ho).1
 rw [hsp]
 constructor
 ·intro e he hbd
  refine ⟨(znz _ _ _ _).2 (.inr ⟨e,by simpa using he,hbd,.inl rfl⟩),?_⟩
  rw [List.all_eq_true] at hb
  have:=hb o (by have:=Array.mem_of_getElem? ho;simpa using this)
  rw [List.all_eq_true] at this
  have:=this e (by simpa using he)
  rwa [Nat.blt_eq] at this
 ·intro x hx
  rcases (znz _ _ _ _).1 hx with h|⟨e,he,hbd,hor⟩
  ·simp at h
  ·refine ⟨e,by simpa using he,hbd,hor.imp id fun h=> ?_⟩
   by_cases hlt:e.on<i
   ·simp only [List.getD,List.getElem?_take_of_lt hlt] at h
    exact h
   ·rw [List.getD,List.getElem?_eq_none (by rw [List.length_take];omega)] at h
    simp at h
theorem zp6 {P:Program} {ops:Array Oper} {t:Item} (ht:t∈items P ops.toList):ops[t.i]? =some t.o /\ (zhb ops.toList [])[t.i]? =some t.m /\ t.k=kdOf P t.o.op:=by
 unfold items at ht
 obtain ⟨⟨⟨m,o⟩,i⟩,hm,rfl⟩:=List.mem_map.1 ht
 have hz:=List.mk_mem_zipIdx_iff_getElem?.1 hm
 rw [List.getElem?_zip_eq_some] at hz
 exact ⟨by simpa using hz.2,hz.1,rfl⟩
theorem plan_mem {its:List Item} {t:Item} (ht:t∈zl0 its):t∈its:=by
 unfold zl0 at ht
 obtain ⟨i,_,hi⟩:=List.mem_filterMap.1 ht
 exact List.mem_of_getElem? hi
theorem plan_mem2 {its:List Item} {t:Item} (ht:t∈zph its):t∈its:=by
 unfold zph at ht
 obtain ⟨i,_,hi⟩:=List.mem_filterMap.1 ht
 exact List.mem_of_getElem? hi
theorem zi5 {x y:Item} (h:zh8 x y=true) (t:TypeId) (a:Operand) (hx:x.o.op= .load t a) (d:Nat) (hd:y.o.dst=some d):a≠ .tmp d:=by
 rintro rfl
 unfold zh8 at h
 simp only [hx,hd] at h
 simp at h
theorem zk4 {ops:Array Oper}: ∀ {l:List Item},zid ops l=true ->
  l.Pairwise (fun x y=>x.m.testBit y.i=false /\ zh8 x y=true /\ (y.m.testBit x.i=true \/ (x.k.fits y.k=true /\ x.o.apart ops y.o=true))) /\ ∀ x∈l,zh8 x x=true /\ x.m.testBit x.i=false
 | [],_=>⟨.nil,by simp⟩
 | x::r,h=>by
  simp only [zid,Bool.and_eq_true,Bool.not_eq_true',List.all_eq_true,Bool.or_eq_true] at h
  obtain ⟨⟨⟨h1,h2⟩,h3⟩,h4⟩:=h
  obtain ⟨k1,k2⟩:=zk4 h4
  refine ⟨List.pairwise_cons.2 ⟨fun y hy=>⟨(h1 y hy).1.1,(h1 y hy).1.2,(h1 y hy).2⟩,k1⟩,fun y hy=> ?_⟩
  rcases List.mem_cons.1 hy with rfl|hy
  ·exact ⟨h2,h3⟩
  ·exact k2 y hy
theorem zp4 {x y:Item} {t:TypeId} {a:Operand} (ho:x.o.op= .load t a) (hb:y.m.testBit x.i=false): ∀ {l:List Item},x∈l->(a,t)∈zja l y
 | [],hx=>by cases hx
 | z::l,hx=>by
  simp only [zja]
  rcases List.mem_cons.1 hx with e|hx
  ·refine List.mem_append_left _ ?_
   rw [<- e,ho]
   simp only [hb,cond_false,List.mem_singleton]
  ·exact List.mem_append_right _ (zp4 ho hb hx)
theorem zoc: ∀ {l:List Item} {y:Item} {q:Operand×TypeId},q∈zja l y-> ∃ x∈l,x.o.op= .load q.2 q.1
 | [],_,_,h=>by simp [zja] at h
 | z::l,y,q,h=>by
  simp only [zja] at h
  rcases List.mem_append.1 h with h|h
  ·split at h
   ·rename_i t a ho
    cases hb:y.m.testBit z.i<;>simp [hb] at h
    subst h
    exact ⟨z,by simp,ho⟩
   ·cases h
  ·obtain ⟨x,hx,ho⟩:=zoc h
   exact ⟨x,by simp [hx],ho⟩
theorem zhi: ∀ (seen l:List Item),(zfa seen l).map (·.1)=l
 | _,[]=>rfl
 | seen,y::r=>by simp [zfa,zhi]
theorem zie: ∀ (seen l:List Item) (y:zjj),y∈zfa seen l->y.1∈l /\ ∃ l1,(∃ l2,l=l1++y.1::l2) /\ y.2=bif y.1.k.zhs then zja (seen++l1) y.1 else []
 | _,[],y,h=>by simp [zfa] at h
 | seen,z::r,y,h=>by
  simp only [zfa] at h
  rcases List.mem_cons.1 h with rfl|h
  ·exact ⟨by simp,[],⟨r,rfl⟩,by simp⟩
  ·obtain ⟨k1,l1,⟨l2,k2⟩,k3⟩:=zie _ _ _ h
   exact ⟨by simp [k1],z::l1,⟨l2,by rw [k2];rfl⟩,by rw [k3];simp⟩
theorem plan_items {P:Program} {ops:Array Oper} {l:List zjj} (h:plan P ops=some l): ∃ p:List Item,l=zfa [] p /\ zid ops p=true /\ ∀ t∈p,t∈items P ops.toList:=by
 unfold plan at h
 simp only at h
 generalize hp:(bif zid ops (zl0 (items P ops.toList)) then zl0 (items P ops.toList) else zph (items P ops.toList))=p at h
 cases hc:(zid ops p&&Nat.beq p.length ops.size&&distinct (p.map (·.i))&&(List.range ops.size).all (fun i=>p.any fun t=>Nat.beq t.i i)&&ops.toList.all (fun o=>o.after.toList.all fun e=>Nat.blt e.on ops.size)) with
 | false=>rw [hc] at h;cases h
 | true=>
  rw [hc] at h
  cases h
  simp only [Bool.and_eq_true] at hc
  refine ⟨p,rfl,hc.1.1.1.1,fun t k=> ?_⟩
  rw [<- hp] at k
  cases hf:zid ops (zl0 (items P ops.toList)) with
  | true=>rw [hf] at k;exact plan_mem k
  | false=>rw [hf] at k;exact plan_mem2 k
theorem isEffect_iff {k:Kd}:k.zhs=true↔k= .effect:=by cases k<;>simp [Kd.zhs]
theorem zly {ops:Array Oper}: ∀ (l seen:List Item),zid ops (seen++l)=true->(zfa seen l).Pairwise (Pair ops)
 | [],_,_=> .nil
 | x::r,seen,h=>by
  have hs:=zk4 h
  simp only [zfa]
  refine List.pairwise_cons.2 ⟨fun y hy=> ?_,zly r (seen++[x]) (by simpa using h)⟩
  obtain ⟨hyr,l1,⟨l2,_⟩,hk⟩:=zie _ _ _ hy
  have hpw:=hs.1
  have hxy:x.m.testBit y.1.i=false /\ zh8 x y.1=true /\ (y.1.m.testBit x.i=true \/ (x.k.fits y.1.k=true /\ x.o.apart ops y.1.o=true)):=
   (List.pairwise_cons.1 (List.pairwise_append.1 hpw).2.1).1 y.1 hyr
  refine ⟨hxy.1,fun t a ho d hd=>zi5 hxy.2.1 t a ho d hd,hxy.2.2,fun t a ho he hb=> ?_,fun q hq d hd=> ?_⟩
  ·rw [hk,he]
   exact zp4 ho hb (by simp)
  ·cases he:x.k.zhs with
   | false=>simp [he] at hq
   | true=>
    simp only [he,cond_true] at hq
    obtain ⟨z,hz,ho⟩:=zoc hq
    have:=(List.pairwise_append.1 hpw).2.2 z hz y.1 (by simp [hyr])
    exact zi5 this.2.1 q.2 q.1 ho d hd
theorem znc: ∀ {l:List Nat},distinct l=true->l.Pairwise (· ≠ ·)
 | [],_=> .nil
 | x::r,h=>by
  simp only [distinct,Bool.and_eq_true,List.all_eq_true,Bool.not_eq_true'] at h
  refine List.pairwise_cons.2 ⟨fun y hy e=> ?_,znc h.2⟩
  have:=h.1 y hy
  rw [e] at this
  simp at this
theorem plan_inv {P:Program} {ops:Array Oper} {l:List zjj} (h:plan P ops=some l):MaskOk ops (zhb ops.toList []) /\ l.length=ops.size /\ Inv P ops (zhb ops.toList []) l (Array.replicate ops.size false):=by
 unfold plan at h
 simp only at h
 generalize hp:(bif zid ops (zl0 (items P ops.toList)) then zl0 (items P ops.toList) else zph (items P ops.toList))=p at h
 cases hc:(zid ops p&&Nat.beq p.length ops.size&&distinct (p.map (·.i))&&(List.range ops.size).all (fun i=>p.any fun t=>Nat.beq t.i i)&&ops.toList.all (fun o=>o.after.toList.all fun e=>Nat.blt e.on ops.size)) with
 | false=>rw [hc] at h;cases h
 | true=>
  rw [hc] at h
  cases h
  simp only [Bool.and_eq_true] at hc
  obtain ⟨⟨⟨⟨h1,h2⟩,h3⟩,h4⟩,h5⟩:=hc
  have hlen:(zfa [] p).length=ops.size:=by
   have:=congrArg List.length (zhi [] p)
   rw [List.length_map] at this
   rw [this];exact Nat.eq_of_beq_eq_true h2
  have hfs:=zk4 h1
  have hmem: ∀ y∈zfa [] p,y.1∈items P ops.toList:=fun y hy=>by
   obtain ⟨k,_⟩:=zie _ _ _ hy
   rw [<- hp] at k
   cases hf:zid ops (zl0 (items P ops.toList)) with
   | true=>rw [hf] at k;exact plan_mem k
   | false=>rw [hf] at k;exact plan_mem2 k
  refine ⟨maskOk h5,hlen,?_⟩
  exact {
   sz:=by simp
   open_:=fun i hi=>by
    simp only [Array.getD_eq_getD_getElem?,Array.getElem?_replicate,hi,if_true,Option.getD_some,true_iff]
    rw [List.all_eq_true] at h4
    have:=h4 i (by simpa using hi)
    rw [List.any_eq_true] at this
    obtain ⟨t,ht,e⟩:=this
    have:t∈(zfa [] p).map (·.1):=by rw [zhi];exact ht
    obtain ⟨y,hy,rfl⟩:=List.mem_map.1 this
    exact ⟨y,hy,Nat.eq_of_beq_eq_true e⟩
   at_:=fun y hy=>by obtain ⟨a,b,_⟩:=zp6 (hmem y hy);exact ⟨a,b⟩
   good:=fun y hy=>by
    obtain ⟨k1,l1,_,k3⟩:=zie _ _ _ hy
    obtain ⟨p1,p2⟩:=hfs.2 y.1 k1
    refine ⟨fun t a ho d hd=>zi5 p1 t a ho d hd,p2,fun hne=> ?_,(zp6 (hmem y hy)).2.2⟩
    rw [k3]
    cases he:y.1.k.zhs with
    | false=>rfl
    | true=>exact absurd (isEffect_iff.1 he) hne
   pair:=zly p [] (by simpa using h1)
   nodup:=by
    have:=znc h3
    rw [<- zhi [] p,List.map_map] at this
    exact this
   down:=fun i hi=>by
    exfalso
    rw [Array.getD_eq_getD_getElem?,Array.getElem?_replicate] at hi
    split at hi<;>simp at hi }
def zia:Code->Bool
 | .rangeFunc .. =>false
 | .seq a b=>zia a&&zia b
 | .cond _ a b=>zia a&&zia b
 | .block _ a=>zia a
 | .loop a=>zia a
 | .scope a=>zia a
 | _=>true
def zir (n:Nat):Code->Bool
 | .region _ ops _=>ops.toList.all (zqe n)
 | .seq a b=>zir n a&&zir n b
 | .cond _ a b=>zir n a&&zir n b
 | .block _ a=>zir n a
 | .loop a=>zir n a
 | .scope a=>zir n a
 | .rangeFunc _ ps a b=>(ps.toList.all fun p=>Nat.blt p n)&&(zia a&&zia b)&&(zir n a&&zir n b)
 | _=>true
def exOf:Exit->Ex->Prop
 | .normal,.normal=>True
 | .exit i,.exit j=>i=j
 | .ret,.ret=>True
 | _,_=>False
section
variable {P:Program} {n:Nat}
def Post (w0:World) (ρ0:Locs) (h0 H0:za) (n:Nat) (Q:Ex->zcf->za->Prop):Exit->Act->World->Prop:=fun e a w=>
 ∃ e' s h,exOf e e' /\ St w0 ρ0 h0 H0 n s h a w /\ Q e' s h
theorem St.drew {w0:World} {ρ0:Locs} {h0 H0:za} {s:zcf} {h:za} {a:Act} {w:World} (x:St w0 ρ0 h0 H0 n s h a w) (k:Nat):St w0 ρ0 h0 H0 n s h a { w with drawn:=k }:=by
 obtain ⟨ρ,H,q1,q2,q3,q4,q5⟩:=x.ex
 exact ⟨⟨ρ,H,q1,q2,q3,q4.drew k,q5⟩,x.size⟩
theorem zmc {F:Fence} {m:Nat} {c:Code} {Q:Exit->Act->World->Prop} {a:Act} {w:World} (h:c.wpIn F m P (Exit.noGoto Q) a w):(Code.scope c).wpIn F m P Q a w:=by
 intro b k cs hro hb hr
 have s1:step P (lone (b.atR a (.code (.scope c)::k)) cs w)= .next (lone (b.atR a (.code c:: .inScope c::k)) cs w):=step_lone_go (by simp [stepG,stepG.exec,Frame.atR])
 have s2: ∀ {a w},step P (lone (b.atR a (.inScope c::k)) cs w)= .next (lone (b.atR a k) cs w):=fun {a w}=>step_lone_go (by simp [stepG,stepG.exec,Frame.atR])
 have h0:(lone (b.atR a (.code (.scope c)::k)) cs w).fenced P F:=fenced_calm hb hr rfl
 obtain ⟨e,a₁,w₁,hq,harr⟩:=h b (.inScope c::k) cs hro hb hr
 cases e with
 | normal=>exact ⟨.normal,a₁,w₁,hq,.head h0 s1 (StepsIn.trans harr (.one (fenced_calm hb hr rfl) s2))⟩
 | exit id=>exact ⟨.exit id,a₁,w₁,hq,fun k' hk=> .head h0 s1 (harr.1 k' (by simp [exitTo,hk])),fun hr' hk=>let ⟨k₁,h1,h2⟩:=harr.2 hr' (by simp [exitTo,hk]);⟨k₁,h1,.head h0 s1 h2⟩⟩
 | goto l=>exact hq.elim
 | ret=>exact ⟨_,a₁,w₁,hq,.of_steps (.one h0 s1) harr⟩
 | panic ch=>exact ⟨_,a₁,w₁,hq,.of_steps (.one h0 s1) harr⟩
 | outgrown=>exact ⟨_,a₁,w₁,hq,.of_steps (.one h0 s1) harr⟩
theorem setPs_rel {ρ:Locs}: ∀ {ps:List Nat} {xs:List AVal} {us:List Value} {s:zcf} {tm:Array Value} {ds:List Deferred},zdz ρ xs us->xs.length=ps.length->(∀ p∈ps,p<tm.size)->SRel ρ s { tmps:=tm,defers:=ds } ->
  SRel ρ (zpb ps xs s) { tmps:=(ps.zip us).foldl (fun tm x=>tm.setIfInBounds x.1 x.2) tm,defers:=ds } /\ ((ps.zip us).foldl (fun tm x=>tm.setIfInBounds x.1 x.2) tm).size=tm.size
 | [],[],_,_,_,_,_,_,_,h=>⟨h,rfl⟩
 | p::ps,x::xs,_,s,tm,ds,⟨u,us,rfl,h1,h2⟩,hl,hp,h=>by
  have h':SRel ρ (putS s (some p) x) { tmps:=tm.setIfInBounds p u,defers:=ds }:=h.put (d:=some p) h1 fun k hk=>by cases hk;exact hp p (by simp)
  have:=setPs_rel (tm:=tm.setIfInBounds p u) h2 (by simpa using hl) (fun q hq=>by rw [Array.size_setIfInBounds];exact hp q (by simp [hq])) h'
  exact ⟨this.1,this.2.trans (by simp)⟩
theorem Dfs.upd {ρ:Locs} {h0 H0 h H:za} {id:Nat} {b b' b1:Blk} (h1:H id=some b1) (hne:b1≠zgq (.dfr true)): ∀ {ds:List Deferred} {l:List Nat},Dfs ρ h0 H0 h H ds l->Dfs ρ h0 (Ab.upd H0 id b) h (Ab.upd H id b') ds l
 | [],_,e=>e
 | _::_,_,⟨i,is,L,e1,e2,e3,e4,e5,e6,e7,e8⟩=>by
  have hi:i≠id:=fun e=>by subst e;rw [h1] at e4;exact hne (Option.some.inj e4)
  exact ⟨i,is,L,e1,e2,e3,by rw [z6 _ _ hi];exact e4,e5,by rw [z6 _ _ hi];exact e6,e7,e8.upd h1 hne⟩
theorem Dfs.mem {ρ:Locs} {h0 H0 h H:za} {k:Nat}: ∀ {ds:List Deferred} {l:List Nat},Dfs ρ h0 H0 h H ds l->k∈l->H k=some (zgq (.dfr true))
 | [],_,e,hk=>by have e:_=[]:=e;subst e;cases hk
 | _::_,_,⟨i,is,L,e1,e2,e3,e4,e5,e6,e7,e8⟩,hk=>by
  subst e1
  rcases List.mem_cons.1 hk with rfl|hk
  ·exact e4
  ·exact e8.mem hk
theorem Dfs.off {ρ:Locs} {h0 H0 h H:za} {k:Nat} {b:Blk}: ∀ {ds:List Deferred} {l:List Nat},Dfs ρ h0 H0 h H ds l->k∉l->Dfs ρ h0 H0 h (Ab.upd H k b) ds l
 | [],_,e,_=>e
 | _::_,_,⟨i,is,L,e1,e2,e3,e4,e5,e6,e7,e8⟩,hk=>by
  subst e1
  have hi:i≠k:=fun e=>hk (by simp [e])
  exact ⟨i,is,L,rfl,e2,e3,by rw [z6 _ _ hi];exact e4,e5,e6,e7,e8.off fun h=>hk (by simp [h])⟩
theorem stOf_jn {e:Exit} {e':Ex} (he:exOf e e'): ∃ jump:Option Code,stOf (jn e'+1)=(if jump.isNone then .ready else .done,jump) /\ jump.isNone=Nat.beq (jn e') 0 /\ ∀ {P l R a w},(∃ v w',(Instr.endRound l jump).run P w= .ok v w' /\ R (.returned v) w')->roundPost P l R e a w:=by
 cases e<;>cases e'<;>(try exact he.elim)
 ·exact ⟨none,rfl,rfl,fun h=>h⟩
 ·rename_i i j
  have he:i=j:=he
  subst he
  exact ⟨some (.exit i),rfl,rfl,fun h=>h⟩
 ·exact ⟨some .ret,rfl,rfl,fun h=>h⟩
theorem round_sound {sz id:Nat} {s:zcf} {ps:Array Tmp} {A B:Code} (hsz:n <= sz) (hps: ∀ p∈ps.toList,p<n)
  (hA: ∀ (l:Nat) (w0:World) (ρ0:Locs) (h0 H0:za) (Q:Ex->zcf->za->Prop) (s:zcf) (h:za) (a:Act) (w:World),awp P (AC P) A Q s h->St w0 ρ0 h0 H0 n s h a w->A.wpIn (WF (some l)) 0 P (Post w0 ρ0 h0 H0 n Q) a w)
  (hB: ∀ (l:Nat) (w0:World) (ρ0:Locs) (h0 H0:za) (Q:Ex->zcf->za->Prop) (s:zcf) (h:za) (a:Act) (w:World),awp P (AC P) B Q s h->St w0 ρ0 h0 H0 n s h a w->B.wpIn (WF (some l)) 0 P (Post w0 ρ0 h0 H0 n Q) a w)
  {xs:List AVal} {h1:za} {Ky:zQ} (hh1:h1 id=none) (hlen:xs.length=ps.size)
  (hx:awp P (AC P) A (Ex.then (awp P (AC P) B fun e _ h2=>endR id (zi9 sz s ps A B) Ky (jn e) h2) fun _ _ _=>False) (zpb ps.toList xs s) h1):
  AC P zn4 (mkY id::xs) (upd h1 id (zi9 sz s ps A B 0)) Ky:=by
 intro w0 ρ H w va hle hR hva
 refine ⟨fun h=>(by cases h),fun _ _=> ?_⟩
 obtain ⟨id',xs',us,L,e1,hL,rfl,hus⟩:=hva.resolve_left (fun h=>by have:=h.noY;cases this)
 simp only [mkY,List.cons.injEq,AVal.agg.injEq,AVal.yld.injEq,and_true] at e1
 obtain ⟨rfl,rfl⟩:=e1
 have hid:H id=some (zi9 sz s ps A B 0):=hle id _ (zca ..)
 have objAt: ∀ {ρ':Locs} {H':za} {w':World} {st:Nat},ρ.le ρ'->R w0 ρ' H' w'->H' id=some (zgq (.loop sz s ps A B st))-> ∃ r:Loop,w'.heap[L.blk]? =some (.loop r) /\ r.params=ps /\ r.assign=A /\ r.body=B /\ r.tmps.size=sz /\ (∀ k,VRel ρ' (s k) (r.tmps.getD k Go.undef)) /\ r.state=(stOf st).1 /\ r.pending=(stOf st).2:=fun {ρ' H' w' st} hρ hR' hid'=>by
  obtain ⟨_,L',ob,q1,q2,q3,q4,q5,q6⟩:=(hR'.blk id _ hid').obj _ rfl
  rw [hρ _ _ _ hL] at q1
  cases q1
  obtain ⟨r,rfl,rest⟩:=q6
  exact ⟨r,q5,rest⟩
 obtain ⟨r,q5,rp,ra,rb,rs,rt,rst,rpe⟩:=objAt (Locs.le_refl ρ) hR hid
 have hy:=run_yield (P:=P) (args:=us.toArray) q5 (by rw [rp, <- hlen,hus.length];simp)
 rw [ra,rb,rp] at hy
 have hfold:(ps.zip us.toArray).foldl (fun (tm:Array Value) (x:Tmp×Value)=>tm.setIfInBounds x.1 x.2) r.tmps=(ps.toList.zip us).foldl (fun (tm:Array Value) (x:Nat×Value)=>tm.setIfInBounds x.1 x.2) r.tmps:=by
  rw [<- Array.foldl_toList];simp
 refine ⟨L.blk,us,r.fn,_,A,B,rfl,hy,?_⟩
 obtain ⟨hrel,hsize⟩:=setPs_rel (ps:=ps.toList) (ds:=[]) (s:=s) (tm:=r.tmps) hus (by simpa using hlen) (fun p hp=>by rw [rs];exact Nat.lt_of_lt_of_le (hps p hp) hsz) rt
 have hle1:h1.le H:=za.le_trans (zgm _ hh1) hle
 have hSt:St w0 ρ h1 H n (zpb ps.toList xs s) h1 { tmps:=(ps.zip us.toArray).foldl (fun (tm:Array Value) (x:Tmp×Value)=>tm.setIfInBounds x.1 x.2) r.tmps,defers:=[] } w:=
  ⟨⟨ρ,H,Locs.le_refl ρ,hle1,Fr.refl h1 H,hR,by rw [hfold];exact hrel,[],rfl⟩,by rw [hfold];show n <= Array.size _;rw [hsize,rs];exact hsz⟩
 refine roundIn_of_wpIn (F:=Fence.wide) trivial (wpIn_mono (hA L.blk _ _ _ _ _ _ _ _ _ hx hSt) ?_)
 rintro e a1 w1 ⟨e',s1,h2,he,hS1,hq⟩
 cases e<;>cases e'<;>(try exact he.elim)<;>(try exact hq.elim)
 obtain ⟨ρ1,H1,p1,p2,p3,p4,p5,lds,p6⟩:=hS1.ex
 obtain ⟨hid1,hid1'⟩:=p3 id hh1 _ hid
 obtain ⟨r1,q51,rp1,ra1,rb1,rs1,rt1,rst1,rpe1⟩:=objAt p1 p4 hid1
 refine ⟨_,run_beginRound q51 rst1,?_⟩
 have hR2:=p4.setObj hid1 rfl (p1 _ _ _ hL) (o':= .loop sz s ps A B 0) (ob':= .loop { r1 with state:= .busy }) ⟨_,rfl,rp1,ra1,rb1,rs1,rt1,rfl,rpe1⟩
 have hSt2:St w0 ρ h1 (upd H id (zgq (.loop sz s ps A B 0))) n s1 h2 a1 (w1.putObj L.blk (.loop { r1 with state:= .busy })):=
  ⟨⟨ρ1,upd H1 id (zgq (.loop sz s ps A B 0)),p1,fun i b hb=>by
   have:i≠id:=fun e=>by subst e;rw [hid1'] at hb;cases hb
   rw [z6 _ _ this];exact p2 i b hb,fun i hi b hb=>by
   by_cases e:i=id
   ·subst e;rw [zca] at hb ⊢;exact ⟨hb,hid1'⟩
   ·rw [z6 _ _ e] at hb ⊢;exact p3 i hi b hb,hR2,p5,lds,p6.upd hid1 (fun e=>by simp [zi9,zgq] at e)⟩,hS1.size⟩
 refine wpIn_mono (hB L.blk _ _ _ _ _ _ _ _ _ hq hSt2) ?_
 rintro e3 a3 w3 ⟨e3',s3,h3,he3,hS3,h4,hle4,hK⟩
 obtain ⟨ρ3,H3,t1,t2,t3,t4,_⟩:=hS3.ex
 obtain ⟨hid3,hid3'⟩:=t3 id hh1 _ (zca ..)
 obtain ⟨r3,q53,rp3,ra3,rb3,rs3,rt3,_,_⟩:=objAt t1 t4 hid3
 obtain ⟨jump,j1,j2,j3⟩:=stOf_jn he3
 refine j3 ⟨_,_,run_endRound jump q53,?_⟩
 have h4id:h4 id=none:=by
  cases e:h4 id with
  | none=>rfl
  | some b=>rw [hle4 id b e] at hid3';cases hid3'
 have hR4:=t4.setObj hid3 rfl (t1 _ _ _ hL) (o':= .loop sz s ps A B (jn e3'+1)) (ob':= .loop { r3 with state:=if jump.isNone then .ready else .done,pending:=jump })
  ⟨_,rfl,rp3,ra3,rb3,rs3,rt3,by rw [j1],by rw [j1]⟩
 refine ⟨_,rfl,⟨⟨.bool (Nat.beq (jn e3') 0),ρ3,upd h4 id (zi9 sz s ps A B (jn e3')),upd H3 id (zi9 sz s ps A B (jn e3')),t1,by rw [j2];rfl,hK h4id,zhj _ (za.le_trans hle4 t2),?_,hR4⟩⟩⟩
 intro i hi b hb
 have hne:i≠id:=fun e=>by subst e;rw [zca] at hi;cases hi
 rw [z6 _ _ hne] at hi
 obtain ⟨m1,m2⟩:=t3 i hi b (by rw [z6 _ _ hne];exact hb)
 rw [z6 _ _ hne,z6 _ _ hne]
 refine ⟨m1,?_⟩
 cases e:h4 i with
 | none=>rfl
 | some b=>rw [hle4 i b e] at m2;cases m2
theorem range_sound {w0:World} {ρ0:Locs} {h0 H0:za} {s:zcf} {h:za} {a:Act} {w:World} {m:Nat} {g:Operand} {ps:Array Tmp} {A B:Code} {Q:Ex->zcf->za->Prop} (hps: ∀ p∈ps.toList,p<n)
  (hA: ∀ (l:Nat) (w0:World) (ρ0:Locs) (h0 H0:za) (Q:Ex->zcf->za->Prop) (s:zcf) (h:za) (a:Act) (w:World),awp P (AC P) A Q s h->St w0 ρ0 h0 H0 n s h a w->A.wpIn (WF (some l)) 0 P (Post w0 ρ0 h0 H0 n Q) a w)
  (hB: ∀ (l:Nat) (w0:World) (ρ0:Locs) (h0 H0:za) (Q:Ex->zcf->za->Prop) (s:zcf) (h:za) (a:Act) (w:World),awp P (AC P) B Q s h->St w0 ρ0 h0 H0 n s h a w->B.wpIn (WF (some l)) 0 P (Post w0 ρ0 h0 H0 n Q) a w)
  (hx:awp P (AC P) (.rangeFunc g ps A B) Q s h) (hS:St w0 ρ0 h0 H0 n s h a w):(Code.rangeFunc g ps A B).wpIn (WF none) m P (Post w0 ρ0 h0 H0 n Q) a w:=by
 refine wpIn_rangeFunc fun fn _=> ?_
 obtain ⟨ρ,H,q1,q2,q3,q4,q5,lds,q6⟩:=hS.ex
 obtain ⟨N,hN⟩:=q4.fin
 have hhN: ∀ i,N <= i->h i=none:=fun i hi=>by
  cases e:h i with
  | none=>rfl
  | some b=>have:=q2 i b e;rw [(hN i hi).1] at this;cases this
 have hRD:=q4.newObj (hN N (Nat.le_refl N)).1 (hN N (Nat.le_refl N)).2 (o:= .dfr true) (ob:= .deferred (some [])) rfl
 generalize hρD:ρ.put N 0 ⟨w.heap.size,0,0,0⟩=ρD at hRD
 have hρ1:ρ.le ρD:=by rw [<- hρD];exact Locs.zkt _ ((hN N (Nat.le_refl N)).2 0)
 have hH1:(upd H N (zgq (.dfr true))) (N+1)=none:=by rw [z6 _ _ (by omega)];exact (hN (N+1) (by omega)).1
 have hρn: ∀ g,ρD (N+1) g=none:=fun g=>by rw [<- hρD,Locs.zdq _ _ (by omega)];exact (hN (N+1) (by omega)).2 g
 have hRL:=hRD.newObj hH1 hρn (o:= .loop a.tmps.size (cutS (cutL ps.toList A B) s) ps A B 1) (ob:= .loop { state:= .ready,pending:=none,fn,tmps:=a.tmps,params:=ps,assign:=A,body:=B,defers:=w.heap.size })
  ⟨_,rfl,rfl,rfl,rfl,rfl,fun k=>by
   unfold cutS
   cases memB (cutL ps.toList A B) k with
   | true=>exact (q5 k).mono hρ1
   | false=>trivial,rfl,rfl⟩
 have hsz1:({ w with heap:=w.heap.push (.deferred (some [])) }:World).heap.size=w.heap.size+1:=by simp
 rw [hsz1] at hRL
 generalize hρL:ρD.put (N+1) 0 ⟨w.heap.size+1,0,0,0⟩=ρL at hRL
 have hρ2:ρD.le ρL:=by rw [<- hρL];exact Locs.zkt _ (hρn 0)
 have hLN:ρL N 0=some ⟨w.heap.size,0,0,0⟩:=by rw [<- hρL,Locs.zdq _ _ (by omega), <- hρD,Locs.zex]
 have hLI:ρL (N+1) 0=some ⟨w.heap.size+1,0,0,0⟩:=by rw [<- hρL,Locs.zex]
 have hρ3:ρ.le ρL:=Locs.le_trans hρ1 hρ2
 generalize hH2:upd (upd H N (zgq (.dfr true))) (N+1) (zgq (.loop a.tmps.size (cutS (cutL ps.toList A B) s) ps A B 1))=H2 at hRL
 have hle2:(upd h (N+1) (zi9 a.tmps.size (cutS (cutL ps.toList A B) s) ps A B 0)).le H2:=by
  rw [<- hH2]
  refine zhj _ fun i b hb=> ?_
  have:i≠N:=fun e=>by subst e;rw [hhN i (Nat.le_refl i)] at hb;cases hb
  rw [z6 _ _ this];exact q2 i b hb
 have hK:=hx a.tmps.size (N+1) (hhN (N+1) (by omega)) (fun xs h1 Ky hh1 hW=>round_sound hS.size hps hA hB hh1 hW.1 hW.2)
 have hg:=zc1 q5 g
 split at hK
 rotate_left
 ·exact hK.elim
 rename_i f first caps hf
 rw [hf] at hg
 obtain ⟨l,l',ev,g1,g2⟩:=hg
 have hv:zdz ρL (first++[.yld (N+1)]++caps) (l++[.func (.yield (w.heap.size+1)) #[] #[]]++l'):=
  ((zdz.mono hρ3 _ _ g1).append (show zdz ρL [.yld (N+1)] [.func (.yield (w.heap.size+1)) #[] #[]] from ⟨_,_,rfl,⟨_,hLI,rfl⟩,rfl⟩)).append (zdz.mono hρ3 _ _ g2)
 rcases (hK w0 ρL H2 _ _ hle2 hRL (.inl hv)).1 hv.noY with ⟨c1,c2⟩|⟨_,_,_,_,c3⟩
 rotate_left
 ·exact (c3 (.func (.yield (w.heap.size+1)) #[] #[]) (by simp) _ _ _ rfl).elim
 have hva:(l++[Value.func (.yield (w.heap.size+1)) #[] #[]]++l').toArray=l.toArray++ #[Value.func (.yield (w.heap.size+1)) #[] #[]]++l'.toArray:=by apply Array.ext';simp
 refine ⟨w.heap.size+1,[{ target:= .collected w.heap.size,args:= #[] }],_,{ target:= .fn (.func f) l'.toArray,args:=l.toArray++ #[.func (.yield (w.heap.size+1)) #[] #[]] },(w.alloc (.deferred (some []))).alloc (.loop { state:= .ready,pending:=none,fn,tmps:=a.tmps,params:=ps,assign:=A,body:=B,defers:=w.heap.size }),f,_,_,run_enterLoop_outer fn a.tmps ps A B,?_,fun _ _=>trivial,?_,fun h=>(by cases h),zrj (c2.mono ?_)⟩
 ·have hmap:Array.map a.eval #[Operand.const (Value.func (Fn.yield (w.heap.size+1)) #[] #[])]= #[Value.func (Fn.yield (w.heap.size+1)) #[] #[]]:=by simp [Act.eval]
  simp only [resolve,ev,Deferred.ofValue,Sem.run_pure,hmap]
 ·rw [hva] at c1 ⊢
  exact c1
 rintro e w3 ⟨v,rfl,hAf⟩
 obtain ⟨x,ρ3,h3,H3,k1,k2,⟨j,h4,m1,m2,m3⟩,k4,k5,k6⟩:=hAf.ex
 have hid3:H3 (N+1)=some (zi9 a.tmps.size (cutS (cutL ps.toList A B) s) ps A B j):=k4 _ _ (m2 _ _ (zca ..))
 obtain ⟨_,L',ob,o1,o2,o3,o4,o5,r3,rfl,rp,ra,rb,rs,rt,rst,rpe⟩:=(k6.blk _ _ hid3).obj _ rfl
 rw [k1 _ _ _ hLI] at o1
 cases o1
 have hnb:r3.state≠ .busy:=by
  rw [rst]
  rcases j with _|_|j<;>simp [stOf]
 refine ⟨_,_,run_endLoop o5 hnb,?_⟩
 have hR4:=k6.setObj hid3 rfl (k1 _ _ _ hLI) (o':= .gone) (ob':= .loop { r3 with state:= .exhausted }) (fun _ _ _=>by simp)
 have h43: ∀ i b,h4 i=some b->i≠N+1 /\ h3 i=some b:=fun i b hb=>by
  have:i≠N+1:=fun e=>by subst e;rw [m1] at hb;cases hb
  exact ⟨this,m2 i b (by rw [z6 _ _ this];exact hb)⟩
 have hfr:Fr h H h4 (upd H3 (N+1) (zgq .gone)):=fun i hi b hb=>by
  have n1:i≠N:=fun e=>by subst e;rw [(hN i (Nat.le_refl i)).1] at hb;cases hb
  have n2:i≠N+1:=fun e=>by subst e;rw [(hN (N+1) (by omega)).1] at hb;cases hb
  obtain ⟨u1,u2⟩:=k5 i (by rw [z6 _ _ n2];exact hi) b (by rw [<- hH2,z6 _ _ n2,z6 _ _ n1];exact hb)
  refine ⟨by rw [z6 _ _ n2];exact u1,?_⟩
  cases e:h4 i with
  | none=>rfl
  | some b=>rw [(h43 i b e).2] at u2;cases u2
 obtain ⟨u1,u2⟩:=k5 N (by rw [z6 _ _ (by omega)];exact hhN N (Nat.le_refl N)) _ (by rw [<- hH2,z6 _ _ (by omega),zca])
 have hSt:St w0 ρ0 h0 H0 n s h4 { a with defers:=[{ target:= .collected w.heap.size,args:= #[] }]++a.defers } (w3.putObj (w.heap.size+1) (.loop { r3 with state:= .exhausted })):=by
  refine ⟨⟨ρ3,_,Locs.le_trans q1 (Locs.le_trans hρ3 k1),fun i b hb=> ?_,q3.trans hfr,hR4,fun k=>(q5 k).mono (Locs.le_trans hρ3 k1),N::lds,N,lds,⟨w.heap.size,0,0,0⟩,rfl,rfl,k1 _ _ _ hLN,?_,?_,fun hn=> ?_,fun hm=> ?_,q6.step (Locs.le_trans hρ3 k1) hfr⟩,hS.size⟩
  ·obtain ⟨n2,hb3⟩:=h43 i b hb
   rw [z6 _ _ n2];exact k4 i b hb3
  ·rw [z6 _ _ (by omega)];exact u1
  ·cases e:h4 N with
   | none=>rfl
   | some b=>rw [(h43 N b e).2] at u2;cases u2
  ·cases e:H0 N with
   | none=>rfl
   | some b=>have:=(q3 N hn b e).1;rw [(hN N (Nat.le_refl N)).1] at this;cases this
  ·have:=q6.mem hm
   rw [(hN N (Nat.le_refl N)).1] at this;cases this
 rw [rpe] at hSt ⊢
 rcases j with _|_|j
 ·exact ⟨.normal,s,h4,trivial,hSt,m3⟩
 ·exact wpIn_ret ⟨.ret,s,h4,trivial,hSt,m3⟩
 ·exact wpIn_exit ⟨.exit j,s,h4,rfl,hSt,m3⟩
theorem zf7 (hm:P.follows .mixedOrders=true): ∀ (c:Code) (r:Option Nat) (m:Nat) (w0:World) (ρ0:Locs) (h0 H0:za) (Q:Ex->zcf->za->Prop) (s:zcf) (h:za) (a:Act) (w:World),zir n c=true->(r=none \/ zia c=true) ->
  awp P (AC P) c Q s h->St w0 ρ0 h0 H0 n s h a w->c.wpIn (WF r) m P (Post w0 ρ0 h0 H0 n Q) a w
 | .skip,r,m,w0,ρ0,h0,H0,Q,s,h,a,w,_,_,hx,hS=>wpIn_skip ⟨.normal,s,h,trivial,hS,hx⟩
 | .region id ops draw,r,m,w0,ρ0,h0,H0,Q,s,h,a,w,hc,_,hx,hS=>by
  have hd: ∀ o∈ops.toList,zqe n o=true:=List.all_eq_true.1 hc
  have hQ: ∀ s h a w,St w0 ρ0 h0 H0 n s h a w->Q .normal s h->Post w0 ρ0 h0 H0 n Q .normal a w:=fun s h a w k1 k2=>⟨.normal,s,h,trivial,k1,k2⟩
  cases draw with
  | false=>
   refine wpIn_region ?_
   rw [List.range_eq_range',show ops.size=ops.toList.length by simp]
   exact ops_sound hd hQ ops.toList 0 s h a w rfl hx hS
  | true=>
   simp only [awp] at hx
   split at hx
   ·rename_i l hl
    obtain ⟨h1,h2,h3⟩:=plan_inv hl
    refine wpIn_region_any hm ?_
    rw [<- h2]
    exact zrd h1 hd hQ l.length l _ s h a _ rfl (by rw [h2];exact h3) hx (hS.drew _)
   ·exact hx.elim
 | .seq x y,r,m,w0,ρ0,h0,H0,Q,s,h,a,w,hc,hr,hx,hS=>by
  simp only [zir,zia,Bool.and_eq_true] at hc hr
  refine wpIn_seq (wpIn_mono (zf7 hm x r m _ _ _ _ _ s h a w hc.1 (hr.imp id And.left) hx hS) ?_)
  rintro e a' w' ⟨e',s',h',he,hS',hq⟩
  cases e<;>cases e'<;>(try exact he.elim)
  ·exact zf7 hm y r m _ _ _ _ Q s' h' a' w' hc.2 (hr.imp id And.right) hq hS'
  ·exact ⟨_,s',h',he,hS',hq⟩
  ·exact ⟨_,s',h',he,hS',hq⟩
 | .cond c x y,r,m,w0,ρ0,h0,H0,Q,s,h,a,w,hc,hr,hx,hS=>by
  simp only [zir,zia,Bool.and_eq_true] at hc hr
  simp only [awp] at hx
  obtain ⟨ρ,H,q1,q2,q3,q4,q5,_⟩:=hS.ex
  have hv:=zc1 q5 c
  unfold A.cond at hx
  split at hx
  ·rename_i b hb
   rw [hb] at hv
   exact wpIn_cond_split (t:=b) hv (fun e=>zf7 hm x r m _ _ _ _ Q s h a w hc.1 (hr.imp id And.left) (hx.1 e) hS) (fun e=>zf7 hm y r m _ _ _ _ Q s h a w hc.2 (hr.imp id And.right) (hx.2 e) hS)
  ·exact hx.elim
 | .label _,r,m,w0,ρ0,h0,H0,Q,s,h,a,w,hc,_,hx,hS=>wpIn_label ⟨.normal,s,h,trivial,hS,hx⟩
 | .scope c,r,m,w0,ρ0,h0,H0,Q,s,h,a,w,hc,hr,hx,hS=>by
  refine zmc (wpIn_mono (zf7 hm c r m _ _ _ _ Q s h a w hc hr hx hS) ?_)
  rintro e a' w' ⟨e',s',h',he,hS',hq⟩
  cases e<;>cases e'<;>first|exact he.elim|exact ⟨_,s',h',he,hS',hq⟩
 | .block id c,r,m,w0,ρ0,h0,H0,Q,s,h,a,w,hc,hr,hx,hS=>by
  refine wpIn_block (wpIn_mono (zf7 hm c r m _ _ _ _ _ s h a w hc hr hx hS) ?_)
  rintro e a' w' ⟨e',s',h',he,hS',hq⟩
  cases e<;>cases e'<;>(try exact he.elim)
  ·exact ⟨.normal,s',h',trivial,hS',hq⟩
  ·rename_i i j
   have he':i=j:=he
   subst he'
   simp only [Exit.inBlock,Ex.inBlock] at hq ⊢
   by_cases hi:i=id
   ·rw [if_pos hi]
    rw [show Nat.beq i id=true by simp [hi]] at hq
    exact ⟨.normal,s',h',trivial,hS',hq⟩
   ·rw [if_neg hi]
    rw [show Nat.beq i id=false by rw [<- Bool.not_eq_true,Nat.beq_eq];exact hi] at hq
    exact ⟨.exit i,s',h',rfl,hS',hq⟩
  ·exact ⟨.ret,s',h',trivial,hS',hq⟩
 | .loop c,r,m,w0,ρ0,h0,H0,Q,s,h,a,w,hc,hr,hx,hS=>by
  intro b k cs hro hb hroom
  have key:=hx (fun s h=> ∀ a w,St w0 ρ0 h0 H0 n s h a w-> ∃ e a' w',Post w0 ρ0 h0 H0 n Q e a' w' /\ ArrivesIn (Machine.fenced P (WF r)) P (lone (b.atR a (.code c:: .inLoop c::k)) cs w) b k cs e a' w') ?_ a w hS
  ·obtain ⟨e,a',w',hq,harr⟩:=key
   exact ⟨e,a',w',hq,.of_steps (.one (fenced_calm hb hroom rfl) stepR_loop) harr⟩
  ·intro s h hbody a w hS
   obtain ⟨e,a₁,w₁,⟨e',s',h',he,hS',hq⟩,harr⟩:=zf7 hm c r m _ _ _ _ _ s h a w hc hr hbody hS b (.inLoop c::k) cs hro hb hroom
   cases e<;>cases e'<;>(try exact he.elim)
   ·obtain ⟨e₂,a₂,w₂,hq₂,harr₂⟩:=hq a₁ w₁ hS'
    exact ⟨e₂,a₂,w₂,hq₂,.of_steps (StepsIn.trans harr (.one (fenced_calm hb hroom rfl) stepR_inLoop)) harr₂⟩
   ·exact ⟨_,a₁,w₁,⟨_,s',h',he,hS',hq⟩,.pass (x:= .inLoop c) rfl (fun _ _=> .inl (by simp)) harr⟩
   ·exact ⟨_,a₁,w₁,⟨_,s',h',he,hS',hq⟩,.pass (x:= .inLoop c) rfl (fun _ _=> .inl (by simp)) harr⟩
 | .exit id,r,m,w0,ρ0,h0,H0,Q,s,h,a,w,_,_,hx,hS=>wpIn_exit ⟨.exit id,s,h,rfl,hS,hx⟩
 | .ret,r,m,w0,ρ0,h0,H0,Q,s,h,a,w,_,_,hx,hS=>wpIn_ret ⟨.ret,s,h,trivial,hS,hx⟩
 | .rangeFunc g ps A B,r,m,w0,ρ0,h0,H0,Q,s,h,a,w,hc,hr,hx,hS=>by
  simp only [zir,Bool.and_eq_true] at hc
  obtain ⟨⟨hp,nA,nB⟩,cA,cB⟩:=hc
  have hr:r=none:=hr.resolve_right (by simp [zia])
  subst hr
  exact range_sound (fun p hp'=>by have:=List.all_eq_true.1 hp p hp';rwa [Nat.blt_eq] at this)
   (fun l w0 ρ0 h0 H0 Q s h a w x y=>zf7 hm A (some l) 0 w0 ρ0 h0 H0 Q s h a w cA (.inr nA) x y)
   (fun l w0 ρ0 h0 H0 Q s h a w x y=>zf7 hm B (some l) 0 w0 ρ0 h0 H0 Q s h a w cB (.inr nB) x y) hx hS
 | .goto _,_,_,_,_,_,_,_,_,_,_,_,_,_,hx,_=>hx.elim
 | .refuse _,_,_,_,_,_,_,_,_,_,_,_,_,_,hx,_=>hx.elim
def resOne (a:Act):ResultVar->Sem Value
 | .tmp t=>pure (a.tmps.getD t Go.undef)
 | .cell x t=>do loadVar t (<- asAddr (a.tmps.getD x Go.undef))
theorem resS_run {w0:World} {ρ:Locs} {h H:za} {s:zcf} {a:Act} {w:World} (hR:R w0 ρ H w) (hle:h.le H) (hs:SRel ρ s a): ∀ (rs:List ResultVar) (l:List AVal),resS P h s rs=some l ->
  ∃ vs:List Value,(rs.mapM (resOne a)).run P w= .ok vs w /\ zdz ρ l vs
 | [],l,h=>by cases h;exact ⟨[],rfl,rfl⟩
 | .cell x t::r,l,hh=>by
  simp only [resS,zlv] at hh
  split at hh
  ·rename_i v l' hv hl
   cases hh
   obtain ⟨vs,k1,k2⟩:=resS_run hR hle hs r l' hl
   obtain ⟨ad,u,e1,e2,e3⟩:=resCell_run (P:=P) hR hle (hs x) hv
   refine ⟨u::vs,?_,⟨_,_,rfl,e3,k2⟩⟩
   rw [List.mapM_cons]
   simp only [resOne,e1,asAddr,Sem.run_bind,Sem.run_pure,Result.andThen_ok,e2,k1]
  ·cases hh
 | .tmp t::r,l,hh=>by
  simp only [resS,zlv] at hh
  split at hh
  ·rename_i v l' hv hl
   cases hv
   cases hh
   obtain ⟨vs,k1,k2⟩:=resS_run hR hle hs r l' hl
   refine ⟨a.tmps.getD t Go.undef::vs,?_,⟨_,_,rfl,hs t,k2⟩⟩
   rw [List.mapM_cons]
   simp only [resOne,Sem.run_bind,Sem.run_pure,Result.andThen_ok,k1]
  ·cases hh
theorem results_run {w0:World} {ρ:Locs} {m H:za} {s:zcf} {a:Act} {w:World} (hR:R w0 ρ H w) (hle:m.le H) (hs:SRel ρ s a) {fn:Func} {v:AVal} (h:resV P m s fn.results.toList=some v): ∃ u,(results fn a.tmps).run P w= .ok u w /\ VRel ρ v u:=by
 unfold resV oneOf at h
 cases hl:resS P m s fn.results.toList with
 | none=>rw [hl] at h;cases h
 | some l=>
  obtain ⟨vs,k1,k2⟩:=resS_run (P:=P) hR hle hs _ l hl
  have hr:(results fn a.tmps).run P w= .ok (if h:vs.toArray.size=1 then vs.toArray[0] else .tuple vs.toArray) w:=by
   have h0:results fn a.tmps=(do
     let vs <- fn.results.mapM (resOne a)
     pure (if h:vs.size=1 then vs[0] else .tuple vs)):=by
    unfold results
    congr 1
   rw [h0,Array.mapM_eq_mapM_toList]
   simp only [Sem.run_bind,Sem.run_map,k1,Result.andThen_ok,Sem.run_pure]
  rw [hl] at h
  rw [hr]
  cases l with
  | nil=>
   cases h
   have:vs=[]:=k2
   subst this
   exact ⟨_,rfl,[],rfl,rfl⟩
  | cons x r=>
   obtain ⟨u,us,rfl,k3,k4⟩:=k2
   cases r with
   | nil=>
    cases h
    have:us=[]:=k4
    subst this
    exact ⟨u,rfl,k3⟩
   | cons y r=>
    cases h
    obtain ⟨u2,us2,rfl,k5,k6⟩:=k4
    refine ⟨.tuple (u::u2::us2).toArray,?_,_,rfl,⟨_,_,rfl,k3,_,_,rfl,k5,k6⟩⟩
    simp
theorem zq5 {w0:World} {fn:Func} {tmps:Array Value} {Rr:Ending->World->Prop} {ρ:Locs} {h0 H0 h:za}
  (fin: ∀ H' w',R w0 ρ H' w'->h.le H'->Fr h0 H0 h H'-> ∃ v,(results fn tmps).run P w'= .ok v w' /\ Rr (.returned v) w'):
  ∀ (ds:List Deferred) (l:List Nat) (H:za) (w:World),Dfs ρ h0 H0 h H ds l->R w0 ρ H w->h.le H->Fr h0 H0 h H->LeavesInM Fence.wide 0 P fn tmps Rr ds .returning w
 | [],_,H,w,_,hR,hle,hf=>fin H w hR hle hf
 | d::ds,_,H,w,⟨i,is,L,e1,e2,e3,e4,e5,e6,e7,e8⟩,hR,hle,hf=>by
  subst e1 e2
  obtain ⟨_,L',ob,o1,_,_,_,o5,o6⟩:=(hR.blk _ _ e4).obj _ rfl
  rw [e3] at o1
  cases o1
  have o6:ob= .deferred (some []):=o6
  subst o6
  refine ⟨by simp,.inl ⟨L.blk,_,rfl,run_takeDeferred o5,zq5 fin ds is _ _ (e8.off e7) (hR.setObj e4 rfl e3 (o':= .dfr false) (ob':= .deferred none) rfl) (fun k b hb=> ?_) fun k hk b hb=> ?_⟩⟩
  ·have:k≠i:=fun e=>by subst e;rw [e5] at hb;cases hb
   rw [z6 _ _ this];exact hle k b hb
  ·have:k≠i:=fun e=>by subst e;rw [e6 hk] at hb;cases hb
   rw [z6 _ _ this];exact hf k hk b hb
theorem AC_intro (hm:P.follows .mixedOrders=true) {f:FuncId} {fn:Func} {c:Code} (hf:P.funcs[f]? =some fn) (hb:fn.body=some c) (hcall: ∀ (va:Array Value) (w:World),(callFunc f va).run P w= .ok (.enter f va) w)
  (hc:zir fn.ntmps c=true) (hne:Nat.beq f zn4=false) {args:List AVal} (hl:args.length <= fn.ntmps) {h:za} {Q:zQ} (hx:awp P (AC P) c (retQ P fn.results.toList Q) (zdi args) h):AC P f args h Q:=by
 refine fun w0 ρ H w va hle hR hva=>⟨fun hny=> ?_,fun _ h=>by subst h;rw [Nat.beq_refl] at hne;cases hne⟩
 have hv:=hva.resolve_right fun ⟨id,xs,us,L,e,_⟩=>by subst e;cases hny
 refine .inl ⟨hcall _ _,?_⟩
 refine (callsIn_wide (n:=0)).1 (callsIn_of_wp_marks hf hb trivial ?_)
 have hlen:=hv.length
 have hS:St w0 ρ h H fn.ntmps (zdi args) h { tmps:=va.toArray++Array.replicate (fn.ntmps-va.toArray.size) undef,defers:=[] } w:=by
  refine ⟨⟨ρ,H,Locs.le_refl ρ,hle,Fr.refl h H,hR,fun k=> ?_,[],rfl⟩,by simp;omega⟩
  unfold zdi
  cases ha:args[k]? with
  | none=>simp only [List.getD,ha];exact trivial
  | some x=>
   obtain ⟨u,k1,k2⟩:=hv.get ha
   have hk:k<va.length:=(List.getElem?_eq_some_iff.1 k1).1
   have:(va.toArray++Array.replicate (fn.ntmps-va.toArray.size) Go.undef).getD k Go.undef=u:=by
    simp [Array.getElem?_append,hk]
    have:=(List.getElem?_eq_some_iff.1 k1).2
    exact this
   rw [show (List.getD args k AVal.undef)=x by simp [List.getD,ha]]
   show VRel ρ x ((va.toArray++Array.replicate (fn.ntmps-va.toArray.size) Go.undef).getD k Go.undef)
   rw [this];exact k2
 refine wpIn_mono (zf7 hm c none 0 _ _ _ _ _ _ h _ w hc (.inl rfl) hx hS) ?_
 rintro e a' w' ⟨e',s',h',he,hS',hq⟩
 obtain ⟨ρ',H',q1,q2,q3,q4,q5,lds,q6⟩:=hS'.ex
 have fin: ∀ e'',(e''= .normal \/ e''= .ret)->A.pv (resV P h' s' fn.results.toList) (fun v=>Q v h')->bodyPostM Fence.wide 0 P fn (fun e w'=> ∃ v,e= .returned v /\ zmr w0 ρ h H Q v w') e'' a' w':=by
  intro e'' hor hq
  obtain ⟨v,hv,hQ⟩:=zd hq
  have:LeavesInM Fence.wide 0 P fn a'.tmps (fun e w'=> ∃ v,e= .returned v /\ zmr w0 ρ h H Q v w') a'.defers .returning w':=
   zq5 (fun H'' w'' hR'' hle'' hf''=>by
    obtain ⟨u,k1,k2⟩:=results_run (P:=P) hR'' hle'' q5 hv
    exact ⟨u,k1,u,rfl,⟨⟨v,ρ',h',H'',q1,k2,hQ,hle'',hf'',hR''⟩⟩⟩) a'.defers lds H' w' q6 q4 q2 q3
  rcases hor with rfl|rfl<;>exact this
 cases e<;>cases e'<;>(try exact he.elim)
 ·exact fin _ (.inl rfl) hq
 ·exact hq.elim
 ·exact fin _ (.inr rfl) hq
end
end Go.Ab
namespace Go.Ab
def zlx (C:CSem):Prop:= ∀ f args h (Q Q':zQ),(∀ v h,Q v h->Q' v h)->C f args h Q->C f args h Q'
theorem AC_cmono (P:Program):zlx (AC P):=zjf P
section
variable {P:Program} {C:CSem}
theorem zo6 (hC:zlx C) {ops:List Oper} {o:Oper} {s:zcf} {h:za} {K K':zQ} (hk: ∀ v h,K v h->K' v h) (x:zn5 P C ops o s h K):zn5 P C ops o s h K':=
 zjx.2 (zgf hC hk (zjx.1 x))
theorem stepWpD_mono (hC:zlx C) {ops:List Oper} {o:Oper} {ks:List (Operand×TypeId)} {s:zcf} {h:za} {K K':zQ} (hk: ∀ v h,K v h->K' v h) (x:znl P C ops o ks s h K):znl P C ops o ks s h K':=by
 rw [znk hC] at x ⊢
 exact zgf hC (fun v h ⟨a,b⟩=>⟨a,hk v h b⟩) x
def zje (l:List Nat) (s s':zcf):Prop:= ∀ k,k∉l->s' k=s k
theorem zje.refl (l:List Nat) (s:zcf):zje l s s:=fun _ _=>rfl
theorem zje.trans {l:List Nat} {a b c:zcf} (x:zje l a b) (y:zje l b c):zje l a c:=fun k hk=>(y k hk).trans (x k hk)
theorem zje.mono {l l':List Nat} {a b:zcf} (hl: ∀ k∈l,k∈l') (x:zje l a b):zje l' a b:=fun k hk=>x k fun h=>hk (hl k h)
theorem zpf (hC:zlx C) {f:AVal} {mk:Nat->Blk} {W W':List AVal->za->(Nat->za->Prop)->Prop} {h:za} {K K':Nat->za->Prop} (hW: ∀ xs h E,W xs h E->W' xs h E) (hk: ∀ j h,K j h->K' j h) (x:rangeR C f mk W h K):rangeR C f mk W' h K':=by
 intro id hid hr
 have y:=x id hid fun xs h1 Ky hh w=>hr xs h1 Ky hh (hW _ _ _ w)
 revert y
 cases f<;>first|exact fun y=>y|exact fun y=>hC _ _ _ _ _ (fun v h3 ⟨j,h4,a,b,c⟩=>⟨j,h4,a,b,hk _ _ c⟩) y
theorem zgl (hC:zlx C): ∀ (c:Code) {Q Q':Ex->zcf->za->Prop},(∀ e s h,Q e s h->Q' e s h)-> ∀ {s:zcf} {h:za},awp P C c Q s h->awp P C c Q' s h
 | .skip,_,_,hq,_,_,x=>hq _ _ _ x
 | .ret,_,_,hq,_,_,x=>hq _ _ _ x
 | .exit _,_,_,hq,_,_,x=>hq _ _ _ x
 | .region _ ops false,Q,Q',hq,s,h,x=>by
  have: ∀ (l:List Oper) (s:zcf) (h:za),opsWp P C ops.toList l (Q .normal) s h->opsWp P C ops.toList l (Q' .normal) s h:=by
   intro l
   induction l with
   | nil=>exact fun s h x=>hq _ _ _ x
   | cons o r ih=>exact fun s h x=>zo6 hC (fun v h y=>ih _ _ y) x
  exact this _ _ _ x
 | .region _ ops true,Q,Q',hq,s,h,x=>by
  have: ∀ (l:List (Item×List (Operand×TypeId))) (s:zcf) (h:za),zfl P C ops.toList l (Q .normal) s h->zfl P C ops.toList l (Q' .normal) s h:=by
   intro l
   induction l with
   | nil=>exact fun s h x=>hq _ _ _ x
   | cons o r ih=>exact fun s h x=>stepWpD_mono hC (fun v h y=>ih _ _ y) x
  simp only [awp] at x ⊢
  split at x
  ·exact this _ _ _ x
  ·exact x.elim
 | .seq a b,Q,Q',hq,s,h,x=>zgl hC a (fun e s h y=>by
   cases e with
   | normal=>exact zgl hC b hq y
   | exit _=>exact hq _ _ _ y
   | ret=>exact hq _ _ _ y) x
 | .cond c a b,Q,Q',hq,s,h,x=>by
  simp only [awp,A.cond] at x ⊢
  split at x
  ·exact ⟨fun e=>zgl hC a hq (x.1 e),fun e=>zgl hC b hq (x.2 e)⟩
  ·exact x.elim
 | .scope b,Q,Q',hq,s,h,x=>zgl hC b hq x
 | .label _,Q,Q',hq,s,h,x=>hq _ _ _ x
 | .block id b,Q,Q',hq,s,h,x=>zgl hC b (fun e s h y=>by
   cases e with
   | normal=>exact hq _ _ _ y
   | ret=>exact hq _ _ _ y
   | exit j=>
    simp only [Ex.inBlock] at y ⊢
    cases hj:Nat.beq j id with
    | true=>rw [hj] at y;exact hq _ _ _ y
    | false=>rw [hj] at y;exact hq _ _ _ y) x
 | .loop c,Q,Q',hq,s,h,x=>fun X hX=>x X fun s h y=>hX s h (zgl hC c (fun e s h z=>by
   cases e with
   | normal=>exact z
   | exit _=>exact hq _ _ _ z
   | ret=>exact hq _ _ _ z) y)
 | .rangeFunc g ps a b,Q,Q',hq,s,h,x=>fun sz=>zpf hC (fun _ _ _ w=>w) (fun j h y=>hq _ _ _ y) (x sz)
 | .goto _,_,_,_,_,_,x=>x.elim
 | .refuse _,_,_,_,_,_,x=>x.elim
def zw (F:zG) (vs:List AVal) (h:za):Prop:=
 ∀ Y:zL,(∀ vs h,F vs h Y->Y vs h)->Y vs h
end
theorem zl9 {P:Program} {f:FuncId} {fn:Func} (hf:P.funcs[f]? =some fn) (hb:fn.body.isNone=false) (hn:(fn.name== "runtime.NumGoroutine")=false) (va:Array Value) (w:World):
  (callFunc f va).run P w= .ok (.enter f va) w:=by
 have hb':fn.body≠none:=fun e=>by rw [e] at hb;cases hb
 have hn':fn.name≠ "runtime.NumGoroutine" :=fun e=>by rw [e] at hn;cases hn
 unfold callFunc
 simp [Sem.run_bind,run_program,hf,hb',hn']
theorem zw.intro {F:zG} {vs:List AVal} {h:za} (I:Nat->zL) (n:Nat)
  (hF: ∀ (Y:zL) (n:Nat) (vs:List AVal) (h:za),I n vs h->(∀ m vs h,m<n->I m vs h->Y vs h)->F vs h Y) (h0:I n vs h):zw F vs h:=by
 intro Y hY
 have: ∀ n vs h,I n vs h->Y vs h:=by
  intro n
  induction n using Nat.strongRecOn with
  | ind n ih=>exact fun vs h hi=>hY vs h (hF Y n vs h hi fun m vs h hm=>ih m hm vs h)
 exact this n vs h h0
structure Bx where
 bs:List Nat
 ds:List Nat
 B:Nat
 pl:List (Nat×List (Nat×List Nat))
abbrev Gd:=Option (Nat×Bool)
abbrev BEnv:=List (Nat×Gd×Nat×Nat)
def zj9:Gd->Gd->Bool
 | none,_=>true
 | some (j,true),some (i,true)=>Nat.beq j i
 | some (j,false),some (i,false)=>Nat.beq j i
 | _,_=>false
namespace Bx
variable (I:Bx)
def clean (k:Nat):Bool:=Nat.blt k I.B&&(!memB I.bs k&& !memB I.ds k)
def okO:Operand->Bool
 | .tmp t=>I.clean t
 | _=>true
def okD:Option Nat->Bool
 | none=>true
 | some d=>I.clean d
def find (g:Gd) (t:Nat):BEnv->Option (Nat×Nat)
 | []=>none
 | (e,g',d,off)::r=>bif Nat.beq e t then (bif zj9 g' g then some (d,off) else none) else find g t r
def place (E:BEnv) (g:Gd):Operand->Option (Nat×Nat)
 | .tmp t=>bif memB I.bs t then some (t,0) else find g t E
 | _=>none
def okG (ops:List Oper):Gd->Bool
 | none=>true
 | some (j,_)=>match zjv ops j with
  | some t=>I.clean t
  | none=>false
end Bx
def slotIs (o:Option Nat) (d:Nat):Bool:=
 match o with
 | some t=>Nat.beq t d
 | none=>false
def guardIs (ops:List Oper) (d:Nat):Gd->Bool
 | none=>false
 | some (j,_)=>slotIs (zjv ops j) d
def zj6 (ops:List Oper) (d:Nat):BEnv->BEnv
 | []=>[]
 | (e,g,b,off)::r=>bif guardIs ops d g then zj6 ops d r else bif Nat.beq e d then zj6 ops d r else bif Nat.beq b d then zj6 ops d r else (e,g,b,off)::zj6 ops d r
def ziv (ops:List Oper) (d:Option Nat) (E:BEnv):BEnv:=
 match d with
 | none=>E
 | some d=>zj6 ops d E
namespace A
def al (v:AVal) (p:Prop):Prop:=
 match v with
 | .agg _=>p
 | _=>False
def boxN (n:Nat) (v:AVal):Option AVal:=
 match v with
 | .agg cs=>if cs.length=n then some (.agg cs) else none
 | _=>none
def box1 (v:AVal):Option AVal:=bif v.zdd then some (.agg [v]) else none
def zol (h:za) (ls:List (AVal×Option Nat)) (K:zQ):zQ:=
 fun v h'=>(∀ p∈ls,match p.2 with|none=> ∃ x,ldv h p.1=some x /\ ldv h' p.1=some x|some n=> ∃ x,ldnv h p.1 n=some x /\ ldnv h' p.1 n=some x) /\ K v h'
def gdO (ops:List Oper) (g:Gd) (s:zcf) (h:za) (M:(zQ)->Prop) (K:zQ):Prop:=
 match g with
 | none=>M K
 | some (j,b)=>match zjv ops j with
  | some t=>A.gd h (s t) b M K
  | none=>False
end A
namespace V
def setF (off:Nat) (v c:AVal):Option AVal:=
 match c with
 | .agg cs=>match put1 off v cs with|some cs=>some (.agg cs)|none=>none
 | _=>none
def setN (off n:Nat) (v c:AVal):Option AVal:=
 match c with
 | .agg cs=>match putN off n v cs with|some cs=>some (.agg cs)|none=>none
 | _=>none
end V
def zpr:Option (List AVal)->Option AVal
 | some cs=>some (.agg cs)
 | none=>none
section
variable (P:Program) (C:CSem) (I:Bx) (ops:List Oper)
def zjq (E:BEnv) (s:zcf):List (Operand×TypeId)->(List (Operand×TypeId)->Prop)->Prop
 | [],k=>k []
 | (.tmp t,ty)::r,k=>bif memB I.bs t then A.al (s (I.B+t)) (zjq E s r k) else bif I.clean t then zjq E s r (fun l=>k ((.tmp t,ty)::l)) else bif memB (E.map (·.1)) t then zjq E s r k else False
 | q::r,k=>zjq E s r (fun l=>k (q::l))
def zjp (E:BEnv) (d:Nat) (s:zcf):List (Operand×TypeId)->Prop->Prop
 | [],p=>p
 | (x,_)::r,p=>match I.place E none x with
  | some (d',_)=>bif Nat.beq d' d then False else A.al (s (I.B+d')) (zjp E d s r p)
  | none=>False
def genB (o:Oper) (ks:List (Operand×TypeId)) (E:BEnv) (s:zcf) (h:za) (K:BEnv->zcf->za->Prop):Prop:=
 zjq I E s ks fun ks'=>
  match ks' with
  | []=>zn5 P C ops o s h fun v h=>K (ziv ops o.dst E) (putS s o.dst v) h
  | ks'=>A.gdO ops o.guard s h (fun K=>opWp P C o.op s h (A.zol h (zed P s ks') K)) fun v h=>K (ziv ops o.dst E) (putS s o.dst v) h
def newB (d:Nat) (c:Option AVal) (E:BEnv) (s:zcf) (h:za) (K:BEnv->zcf->za->Prop):Prop:=
 A.pv c fun c=>K (zj6 ops d E) (putS s (some (I.B+d)) c) h
def gNone:Gd->Bool
 | none=>true
 | some _=>false
def gNoneD:Option Nat->Bool
 | none=>true
 | some _=>false
def kNone:List (Operand×TypeId)->Bool
 | []=>true
 | _=>false
def derB (o:Oper) (d off:Nat) (E:BEnv) (s:zcf) (h:za) (K:BEnv->zcf->za->Prop):Prop:=
 match o.dst with
 | some e=>A.al (s (I.B+d)) (A.gdO ops o.guard s h (fun K=>K .undef h) fun _ h=>K ((e,o.guard,d,off)::zj6 ops e E) (putS s (some e) .undef) h)
 | none=>False
def stepB (o:Oper) (ks:List (Operand×TypeId)) (E:BEnv) (s:zcf) (h:za) (K:BEnv->zcf->za->Prop):Prop:=
 match o.op with
 | .alloc t=>match o.dst with
  | some d=>bif memB I.bs d then newB I ops d (zpr (zeroOf P t)) E s h K else genB P C I ops o ks E s h K
  | none=>genB P C I ops o ks E s h K
 | .box t x=>match o.dst with
  | some d=>bif memB I.bs d then newB I ops d (bif zd1 P t then A.boxN (P.cellsOf t) (evS s x) else A.box1 (evS s x)) E s h K else genB P C I ops o ks E s h K
  | none=>genB P C I ops o ks E s h K
 | .load t x=>match I.place E o.guard x with
  | some (d,off)=>(match P.underlying t with
   | none=>False
   | some _=>A.gdO ops o.guard s h (fun K=>A.pv (bif zd1 P t then V.zfg off (P.cellsOf t) (s (I.B+d)) else V.zd8 off (s (I.B+d))) fun v=>K v h) fun v h=>K (ziv ops o.dst E) (putS s o.dst v) h)
  | none=>genB P C I ops o ks E s h K
 | .store t x v=>match I.place E o.guard x with
  | some (d,off)=>zjp I E d s ks (bif zd1 P t then A.pv (V.setN off (P.cellsOf t) (evS s v) (s (I.B+d))) fun c=>K E (putS s (some (I.B+d)) c) h
    else bif Nat.beq (P.cellsOf t) 1 then A.pv (V.setF off (evS s v) (s (I.B+d))) fun c=>K E (putS s (some (I.B+d)) c) h else False)
  | none=>genB P C I ops o ks E s h K
 | .fieldAddr t x f=>match I.place E o.guard x with
  | some (d,off)=>(match P.underlying t with
   | some (.struct fs)=>(match fs[f]? with
    | some fd=>bif Nat.beq (P.cellsOf fd.type) 0 then False else derB I ops o d (off+fd.offset) E s h K
    | none=>False)
   | _=>False)
  | none=>genB P C I ops o ks E s h K
 | .nilCheck x=>match I.place E o.guard x with
  | some (d,off)=>derB I ops o d off E s h K
  | none=>genB P C I ops o ks E s h K
 | _=>genB P C I ops o ks E s h K
def opsB:List (Oper×List (Operand×TypeId))->(zcf->za->Prop)->BEnv->zcf->za->Prop
 | [],Q,_,s,h=>Q s h
 | (o,ks)::r,Q,E,s,h=>stepB P C I ops o ks E s h fun E s h=>opsB r Q E s h
end
section
variable (P:Program) (I:Bx) (ops:List Oper)
def envB (o : Oper) (E : BEnv) : BEnv :=
  match o.op with
  | .alloc _ | .box _ _ => match o.dst with
    | some d => bif memB I.bs d then zj6 ops d E else ziv ops o.dst E
    | none => ziv ops o.dst E
  | .store _ x _ => match I.place E o.guard x with
    | some _ => E
    | none => ziv ops o.dst E
  | .fieldAddr t x f => match I.place E o.guard x with
    | some (d, off) => (match P.underlying t with
      | some (.struct fs) => (match fs[f]? with
        | some fd => (match o.dst with
          | some e => (e, o.guard, d, off + fd.offset) :: zj6 ops e E
          | none => E)
        | none => E)
      | _ => E)
    | none => ziv ops o.dst E
  | .nilCheck x => match I.place E o.guard x with
    | some (d, off) => (match o.dst with
      | some e => (e, o.guard, d, off) :: zj6 ops e E
      | none => E)
    | none => ziv ops o.dst E
  | _ => ziv ops o.dst E
def chkG (o:Oper):Bool:=o.op.operands.toList.all I.okO&&(I.okD o.dst&&I.okG ops o.guard)
def chkD (o:Oper) (ks:List (Operand×TypeId)):Bool:=kNone ks&&(match o.dst with
 | some e=>memB I.ds e&&(!memB I.bs e&&(Nat.blt e I.B&&I.okG ops o.guard))
 | none=>false)
def chkS (o:Oper) (ks:List (Operand×TypeId)) (E:BEnv):Bool:=
 match o.op with
 | .alloc _=>match o.dst with
  | some d=>bif memB I.bs d then gNone o.guard&&(kNone ks&&Nat.blt d I.B) else chkG I ops o
  | none=>chkG I ops o
 | .box _ x=>match o.dst with
  | some d=>bif memB I.bs d then gNone o.guard&&(kNone ks&&(Nat.blt d I.B&&I.okO x)) else chkG I ops o
  | none=>chkG I ops o
 | .load _ x=>match I.place E o.guard x with
  | some _=>kNone ks&&(I.okD o.dst&&I.okG ops o.guard)
  | none=>chkG I ops o
 | .store _ x v=>match I.place E o.guard x with
  | some _=>gNone o.guard&&(I.okO v&&gNoneD o.dst)
  | none=>chkG I ops o
 | .fieldAddr _ x _=>match I.place E o.guard x with
  | some _=>chkD I ops o ks
  | none=>chkG I ops o
 | .nilCheck x=>match I.place E o.guard x with
  | some _=>chkD I ops o ks
  | none=>chkG I ops o
 | _=>chkG I ops o
def chkO:List (Oper×List (Operand×TypeId))->BEnv->Bool
 | [],_=>true
 | (o,ks)::r,E=>chkS I ops o ks E&&chkO r (envB P I ops o E)
end
def plain (l:List Oper):List (Oper×List (Operand×TypeId)):=l.map fun o=>(o,[])
def drawn (l:List (Item×List (Operand×TypeId))):List (Oper×List (Operand×TypeId)):=l.map fun t=>(t.1.o,t.2)
def keepsI:List Item->Item->List Nat
 | [],_=>[]
 | x::r,y=>(match x.o.op with
   | .load _ _=>bif y.m.testBit x.i then [] else [x.i]
   | _=>[])++keepsI r y
def zla:List Item->List Item->List (List Nat)
 | _,[]=>[]
 | seen,y::r=>(bif y.k.zhs then keepsI seen y else [])::zla (seen++[y]) r
def natsEq:List Nat->List Nat->Bool
 | [],[]=>true
 | x::r,y::s=>Nat.beq x y&&natsEq r s
 | _,_=>false
def natssEq:List (List Nat)->List (List Nat)->Bool
 | [],[]=>true
 | x::r,y::s=>natsEq x y&&natssEq r s
 | _,_=>false
def opAt (ops:List Oper) (i:Nat):Oper:=(ops[i]?).getD default
def znw (ops:List Oper):List Nat->List (Operand×TypeId)
 | []=>[]
 | j::r=>match (opAt ops j).op with
  | .load t a=>(a,t)::znw ops r
  | _=>znw ops r
def litOf (ops:List Oper) (pl:List (Nat×List Nat)):List (Oper×List (Operand×TypeId)):=pl.map fun q=>(opAt ops q.1,znw ops q.2)
def planLit (P:Program) (ops:Array Oper) (pl:List (Nat×List Nat)):Bool:=
 match plan P ops with
 | some l=>natsEq (l.map fun t=>t.1.i) (pl.map fun q=>q.1)&&natssEq (zla [] (l.map fun t=>t.1)) (pl.map fun q=>q.2)
 | none=>false
def plOf (k:Nat):List (Nat×List (Nat×List Nat))->Option (List (Nat×List Nat))
 | []=>none
 | (i,l)::r=>bif Nat.beq i k then some l else plOf k r
def bwp (P:Program) (C:CSem) (I:Bx):Code->(Ex->zcf->za->Prop)->zcf->za->Prop
 | .skip,Q,s,h=>Q .normal s h
 | .region k ops draw,Q,s,h=>
  match draw with
  | false=>opsB P C I ops.toList (plain ops.toList) (Q .normal) [] s h
  | true=>match plOf k I.pl with
   | some pl=>opsB P C I ops.toList (litOf ops.toList pl) (Q .normal) [] s h
   | none=>False
 | .seq a b,Q,s,h=>bwp P C I a (Ex.then (bwp P C I b Q) Q) s h
 | .cond c x y,Q,s,h=>A.cond (evS s c) (bwp P C I x Q s h) (bwp P C I y Q s h)
 | .block id b,Q,s,h=>bwp P C I b (Ex.inBlock id Q) s h
 | .loop c,Q,s,h=> ∀ X:zcf->za->Prop,(∀ s h,bwp P C I c (Ex.then X Q) s h->X s h)->X s h
 | .exit id,Q,s,h=>Q (.exit id) s h
 | .ret,Q,s,h=>Q .ret s h
 | .scope c,Q,s,h=>bwp P C I c Q s h
 | .label _,Q,s,h=>Q .normal s h
 | .rangeFunc g ps a b,Q,s,h=> ∀ sz,rangeR C (evS s g) (zi9 sz (cutS (cutL ps.toList a b) s) ps a b)
   (fun xs h1 E=>xs.length=ps.size /\ bwp P C I a (Ex.then (bwp P C I b fun e _ h2=>E (jn e) h2) fun _ _ _=>False) (zpb ps.toList xs (cutS (cutL ps.toList a b) s)) h1) h fun j h2=>Q (unj j) s h2
 | _,_,_,_=>False
def resB (P:Program) (I:Bx) (h:za) (s:zcf):List ResultVar->Option (List AVal)
 | []=>some []
 | .tmp t::r=>bif I.clean t then zlv (some (s t)) (resB P I h s r) else none
 | .cell t ty::r=>bif memB I.bs t then (match P.underlying ty with
   | none=>none
   | some _=>zlv (bif zd1 P ty then V.zfg 0 (P.cellsOf ty) (s (I.B+t)) else V.zd8 0 (s (I.B+t))) (resB P I h s r)) else (bif I.clean t then zlv (znn P h (s t) ty) (resB P I h s r) else none)
def retB (P:Program) (I:Bx) (rs:List ResultVar) (Q:zQ):Ex->zcf->za->Prop
 | .ret,s,h | .normal,s,h=>A.pv (oneOf (resB P I h s rs)) fun v=>Q v h
 | .exit _,_,_=>False
def chkC (P:Program) (I:Bx):Code->Bool
 | .region k ops draw=>match draw with
  | false=>chkO P I ops.toList (plain ops.toList) []
  | true=>match plOf k I.pl with
   | some pl=>planLit P ops pl&&chkO P I ops.toList (litOf ops.toList pl) []
   | none=>false
 | .seq a b=>chkC P I a&&chkC P I b
 | .cond c a b=>I.okO c&&(chkC P I a&&chkC P I b)
 | .block _ b=>chkC P I b
 | .loop b=>chkC P I b
 | .scope b=>chkC P I b
 | .rangeFunc g ps a b=>I.okO g&&((cutL ps.toList a b).all I.clean&&ps.toList.all I.clean)&&(chkC P I a&&chkC P I b)
 | _=>true
structure CGood (C:CSem):Prop where
 mono:zlx C
 frame: ∀ f args (h' h:za) (K:zQ),h'.le h->C f args h' K->C f args h fun v h1=> ∃ h1',K v h1' /\ h1'.le h1 /\ Fr h' h h1' h1
def za.join (h' h h1':za):za:=⟨fun id=>match h1' id with
 | some b=>some b
 | none=>match h' id with
  | none=>h id
  | some _=>none,by
 obtain ⟨N,k⟩:=h.2
 obtain ⟨M,m⟩:=h1'.2
 refine ⟨max N M,fun i hi=> ?_⟩
 have e1:h1' i=none:=m i (by omega)
 have e2:h i=none:=k i (by omega)
 simp only [e1,e2]
 split<;>rfl⟩
theorem AC_good (P:Program):CGood (AC P) where
 mono:=zjf P
 frame:=by
  intro f args h' h K hle x
  intro w0 ρ H w va h1 h2 h3
  refine (x w0 ρ H w va (za.le_trans hle h1) h2 h3).mono fun e w' ⟨v,e1,e2⟩=>⟨v,e1,?_⟩
  obtain ⟨a,ρ',h1',H1,k1,k2,k3,k4,k5,k6⟩:=e2.ex
  have hj: ∀ id b,za.join h' h h1' id=some b->h1' id=some b \/ (h1' id=none /\ h' id=none /\ h id=some b):=fun id b hb=>by
   simp only [za.join] at hb
   split at hb
   ·rename_i b' e;exact .inl (by rw [e];exact hb)
   ·rename_i e
    split at hb
    ·rename_i e';exact .inr ⟨e,e',hb⟩
    ·cases hb
  refine ⟨⟨a,ρ',za.join h' h h1',H1,k1,k2,⟨h1',k3,?_,?_⟩,?_,?_,k6⟩⟩
  ·intro id b hb
   simp only [za.join,hb]
  ·intro id h0 b hb
   obtain ⟨m1,m2⟩:=k5 id h0 b (h1 id b hb)
   exact ⟨by simp only [za.join,m2,h0,hb],m2⟩
  ·intro id b hb
   rcases hj id b hb with e|⟨_,e2,e3⟩
   ·exact k4 id b e
   ·exact (k5 id e2 b (h1 id b e3)).1
  ·intro id h0 b hb
   have h0':h' id=none:=by
    cases e:h' id with
    | none=>rfl
    | some b'=>rw [hle id b' e] at h0;cases h0
   obtain ⟨m1,m2⟩:=k5 id h0' b hb
   exact ⟨m1,by simp only [za.join,m2,h0',h0]⟩
def erase (h:za) (id:Nat):za:=⟨fun i=>bif Nat.beq i id then none else h i,by
 obtain ⟨N,k⟩:=h.2
 refine ⟨N,fun i hi=> ?_⟩
 have e:h i=none:=k i hi
 show (bif Nat.beq i id then none else h i)=none
 rw [e];cases Nat.beq i id<;>rfl⟩
theorem erase_same (h:za) (id:Nat):erase h id id=none:=by
 show (bif Nat.beq id id then none else h id)=none
 rw [Nat.beq_refl];rfl
theorem zmp (h:za) {id i:Nat} (hi:i≠id):erase h id i=h i:=by
 show (bif Nat.beq i id then none else h i)=h i
 rw [show Nat.beq i id=false from by rw [<- Bool.not_eq_true,Nat.beq_eq];exact hi];rfl
theorem upd_erase_le {h:za} {id:Nat} {b:Blk} (hb:h id=some b):(upd (erase h id) id b).le h:=fun i c hc=>by
 by_cases e:i=id
 ·subst e;rw [zca] at hc;rw [hb];exact hc
 ·rw [z6 _ _ e,zmp _ e] at hc;exact hc
theorem AC_drop {P:Program} {f:Nat} {args:List AVal} {h:za} {Q:zQ} (x:AC P f args h fun v h=> ∃ h',Q v h' /\ h'.le h):AC P f args h Q:=by
 intro w0 ρ H w va h1 h2 h3
 refine (x w0 ρ H w va h1 h2 h3).mono fun e w' ⟨v,e1,e2⟩=>⟨v,e1,?_⟩
 obtain ⟨a,ρ',h1',H1,k1,k2,⟨h'',k3,kl⟩,k4,k5,k6⟩:=e2.ex
 refine ⟨⟨a,ρ',h'',H1,k1,k2,k3,za.le_trans kl k4,fun id h0 b hb=> ?_,k6⟩⟩
 obtain ⟨m1,m2⟩:=k5 id h0 b hb
 refine ⟨m1,?_⟩
 cases e:h'' id with
 | none=>rfl
 | some b'=>rw [kl id b' e] at m2;cases m2
theorem run_frame {C:CSem} (hC:CGood C) {h' h:za} {K:zQ} {x:Sh} (hle:h'.le h) (hkn:x.known h') (hx:x.run C h' K):x.run C h fun v h1=> ∃ h1',K v h1' /\ h1'.le h1 /\ Fr h' h h1' h1:=by
 cases x with
 | val v=>exact ⟨h',hx,hle,Fr.refl h' h⟩
 | heap id b v=>
  obtain ⟨b0,hb0⟩:=hkn
  exact ⟨upd h' id b,hx,zhj b hle,Fr.upd hb0⟩
 | many id l=>
  obtain ⟨b0,hb0⟩:=hkn
  exact fun p hp=>⟨upd h' id p.1,hx p hp,zhj p.1 hle,Fr.upd hb0⟩
 | new b mk=>
  intro id hid
  have h0:h' id=none:=by
   cases e:h' id with
   | none=>rfl
   | some b'=>rw [hle id b' e] at hid;cases hid
  exact ⟨upd h' id b,hx id h0,zhj b hle,Fr.fresh hid⟩
 | call f args=>exact hC.frame _ _ _ _ _ hle hx
 | fail=>exact hx
structure RelB (I:Bx) (s':zcf) (h':za) (s:zcf) (h:za) (β:Nat->Nat):Prop where
 le:h'.le h
 cl: ∀ k,I.clean k=true->s' k=s k
 bx: ∀ d cs,memB I.bs d=true->s' (I.B+d)= .agg cs->s d= .ptr (β d) 0 0 /\ h (β d)=some (zek cs) /\ h' (β d)=none
 ap: ∀ d e cs cs',memB I.bs d=true->memB I.bs e=true->d≠e->s' (I.B+d)= .agg cs->s' (I.B+e)= .agg cs'->β d≠β e
def NotHeld (ops:List Oper) (s:zcf) (g:Gd):Prop:= ∃ j b t,g=some (j,b) /\ zjv ops j=some t /\ s t≠ .bool b
def Held (ops:List Oper) (s:zcf) (g:Gd):Prop:= ∀ j b,g=some (j,b)-> ∃ t,zjv ops j=some t /\ s t= .bool b
structure EnvAt (I:Bx) (ops:List Oper) (s' s:zcf) (β:Nat->Nat) (e:Nat) (g:Gd) (d off:Nat):Prop where
 inBs:memB I.bs d=true
 inDs:memB I.ds e=true
 noB:memB I.bs e=false
 lt:e<I.B
 al: ∃ cs,s' (I.B+d)= .agg cs
 at_:s e= .ptr (β d) 0 off \/ (s e= .tup [] /\ NotHeld ops s g)
def zkx (I:Bx) (ops:List Oper) (E:BEnv) (s' s:zcf) (β:Nat->Nat):Prop:= ∀ e g d off,(e,g,d,off)∈E->EnvAt I ops s' s β e g d off
theorem zgk {I:Bx} {k:Nat} (h:I.clean k=true):k<I.B /\ memB I.bs k=false /\ memB I.ds k=false:=by
 simp only [Bx.clean,Bool.and_eq_true,Bool.not_eq_true',Nat.blt_eq] at h
 exact h
theorem ziy {a b:Nat} (h:a≠b):Nat.beq a b=false:=by rw [<- Bool.not_eq_true,Nat.beq_eq];exact h
theorem zpx {a b:Nat} (h:Nat.beq a b=true):a=b:=Nat.eq_of_beq_eq_true h
theorem zlf {ops:List Oper} {d:Nat}: ∀ {E:BEnv} {e:Nat} {g:Gd} {b off:Nat},(e,g,b,off)∈zj6 ops d E->(e,g,b,off)∈E /\ e≠d /\ b≠d /\ ∀ j x,g=some (j,x)->zjv ops j≠some d
 | [],_,_,_,_,h=>by simp [zj6] at h
 | (e',g',b',off')::r,e,g,b,off,h=>by
  unfold zj6 at h
  have rec_:(e,g,b,off)∈zj6 ops d r->(e,g,b,off)∈(e',g',b',off')::r /\ e≠d /\ b≠d /\ ∀ j x,g=some (j,x)->zjv ops j≠some d:=fun h=>by
   obtain ⟨k1,k2⟩:=zlf h
   exact ⟨List.mem_cons_of_mem _ k1,k2⟩
  cases hg:guardIs ops d g' with
  | true=>rw [hg] at h;exact rec_ h
  | false=>
   rw [hg] at h
   cases he:Nat.beq e' d with
   | true=>rw [he] at h;exact rec_ h
   | false=>
    rw [he] at h
    cases hb:Nat.beq b' d with
    | true=>rw [hb] at h;exact rec_ h
    | false=>
     rw [hb] at h
     rcases List.mem_cons.1 h with h|h
     ·cases h
      refine ⟨List.mem_cons_self ..,fun hh=> ?_,fun hh=> ?_,fun j x hj hs=> ?_⟩
      ·rw [hh,Nat.beq_refl] at he;cases he
      ·rw [hh,Nat.beq_refl] at hb;cases hb
      ·subst hj
       simp only [guardIs,hs,slotIs,Nat.beq_refl] at hg
       cases hg
     ·exact rec_ h
theorem zqn {ops:List Oper} {s:zcf} {a b:Gd} (h:zj9 a b=true) (hb:Held ops s b) (ha:NotHeld ops s a):False:=by
 obtain ⟨j,x,t,e1,e2,e3⟩:=ha
 subst e1
 cases b with
 | none=>cases x<;>simp [zj9] at h
 | some p=>
  obtain ⟨i,y⟩:=p
  obtain ⟨t',k1,k2⟩:=hb i y rfl
  cases x<;>cases y<;>simp only [zj9] at h
  ·have:=zpx h;subst this;rw [e2] at k1;cases k1;exact e3 k2
  ·cases h
  ·cases h
  ·have:=zpx h;subst this;rw [e2] at k1;cases k1;exact e3 k2
section
variable {P:Program} {C:CSem} {I:Bx} {ops:List Oper} {E:BEnv} {s' s:zcf} {h' h:za} {β:Nat->Nat}
theorem find_spec {g:Gd} {t d off:Nat}: ∀ {E:BEnv},Bx.find g t E=some (d,off)-> ∃ g',(t,g',d,off)∈E /\ zj9 g' g=true
 | [],h=>by simp [Bx.find] at h
 | (e,g',d',off')::r,h=>by
  unfold Bx.find at h
  cases he:Nat.beq e t with
  | true=>
   rw [he] at h
   cases hg:zj9 g' g with
   | true=>
    rw [hg] at h
    cases h
    have:=zpx he
    subst this
    exact ⟨g',List.mem_cons_self ..,hg⟩
   | false=>rw [hg] at h;cases h
  | false=>
   rw [he] at h
   obtain ⟨g',k1,k2⟩:=find_spec h
   exact ⟨g',List.mem_cons_of_mem _ k1,k2⟩
theorem zor {g:Gd} {x:Operand} {d off:Nat} (hE:zkx I ops E s' s β) (hp:I.place E g x=some (d,off)):memB I.bs d=true:=by
 cases x<;>(try (simp [Bx.place] at hp;done))
 rename_i t
 simp only [Bx.place] at hp
 cases hb:memB I.bs t with
 | true=>rw [hb] at hp;cases hp;exact hb
 | false=>
  rw [hb] at hp
  obtain ⟨g',k1,_⟩:=find_spec hp
  exact (hE _ _ _ _ k1).inBs
theorem znq {g:Gd} {x:Operand} {d off:Nat} {cs:List AVal} (hR:RelB I s' h' s h β) (hE:zkx I ops E s' s β) (hp:I.place E g x=some (d,off)) (ha:s' (I.B+d)= .agg cs) (hg:Held ops s g):evS s x= .ptr (β d) 0 off:=by
 cases x<;>(try (simp [Bx.place] at hp;done))
 rename_i t
 simp only [Bx.place] at hp
 cases hb:memB I.bs t with
 | true=>
  rw [hb] at hp
  cases hp
  exact (hR.bx _ _ hb ha).1
 | false=>
  rw [hb] at hp
  obtain ⟨g',k1,k2⟩:=find_spec hp
  rcases (hE _ _ _ _ k1).at_ with e|⟨_,e⟩
  ·exact e
  ·exact (zqn k2 hg e).elim
theorem place_any {x:Operand} {d off:Nat} {cs:List AVal} (hR:RelB I s' h' s h β) (hE:zkx I ops E s' s β) (hp:I.place E none x=some (d,off)) (ha:s' (I.B+d)= .agg cs):evS s x= .ptr (β d) 0 off:=
 znq hR hE hp ha fun _ _ e=>by cases e
theorem rel_put {dst:Option Nat} {v:AVal} {h1' h1:za} (hR:RelB I s' h' s h β) (hd:I.okD dst=true) (hle:h1'.le h1) (hf:Fr h' h h1' h1):RelB I (putS s' dst v) h1' (putS s dst v) h1 β:=by
 have hs: ∀ k,(∀ d,dst=some d->k≠d)->putS s' dst v k=s' k /\ putS s dst v k=s k:=fun k hk=>by
  cases dst with
  | none=>exact ⟨rfl,rfl⟩
  | some d=>exact ⟨zdg _ _ (hk d rfl),zdg _ _ (hk d rfl)⟩
 have hB: ∀ d,I.B+d≠dst.getD (I.B+d+1):=fun d=>by
  cases dst with
  | none=>simp
  | some e=>have:=(zgk (I:=I) (k:=e) hd).1;simp;omega
 have hB': ∀ d,putS s' dst v (I.B+d)=s' (I.B+d):=fun d=>(hs _ fun e he=>by subst he;exact hB d).1
 refine ⟨hle,fun k hk=> ?_,fun d cs hb hc=> ?_,fun d e cs cs' hb he hne hc hc'=> ?_⟩
 ·cases dst with
  | none=>exact hR.cl k hk
  | some d=>
   by_cases e:k=d
   ·subst e;rw [zgx,zgx]
   ·rw [zdg _ _ e,zdg _ _ e];exact hR.cl k hk
 ·rw [hB'] at hc
  obtain ⟨k1,k2,k3⟩:=hR.bx d cs hb hc
  obtain ⟨m1,m2⟩:=hf _ k3 _ k2
  refine ⟨?_,m1,m2⟩
  rw [(hs d fun e he=> ?_).2]
  ·exact k1
  ·subst he
   intro e';subst e'
   have:=(zgk (I:=I) (k:=d) hd).2.1
   rw [this] at hb;cases hb
 ·rw [hB'] at hc hc'
  exact hR.ap d e cs cs' hb he hne hc hc'
theorem env_kill {dst:Option Nat} {v:AVal} (hE:zkx I ops E s' s β) (hd:I.okD dst=true):zkx I ops (ziv ops dst E) (putS s' dst v) (putS s dst v) β:=by
 cases dst with
 | none=>exact hE
 | some d=>
  intro e g b off hm
  obtain ⟨k1,k2,k3,k4⟩:=zlf hm
  have a:=hE _ _ _ _ k1
  have hdB:=(zgk (I:=I) (k:=d) hd).1
  refine ⟨a.inBs,a.inDs,a.noB,a.lt,?_,?_⟩
  ·rw [zdg _ _ (by omega)];exact a.al
  ·rw [zdg _ _ k2]
   rcases a.at_ with e|⟨e,j,x,t,e1,e2,e3⟩
   ·exact .inl e
   ·refine .inr ⟨e,j,x,t,e1,e2,?_⟩
    rw [zdg]
    ·exact e3
    ·intro hh;subst hh;exact k4 j x e1 e2
theorem zi7 (hR:RelB I s' h' s h β) {x:Operand} (hx:I.okO x=true):evS s' x=evS s x:=by
 cases x<;>(try rfl)
 exact hR.cl _ hx
theorem gd_cases {o:Oper} {K:zQ} {M:(zQ)->Prop} (hR:RelB I s' h' s h β) (hG:I.okG ops o.guard=true) (hx:A.gdO ops o.guard s' h' M K):
  ((∀ H,zcq P ops o s H=shOf P o.op (evS s) H) /\ M K /\ Held ops s o.guard) \/ ((∀ H,zcq P ops o s H= .val (.tup [])) /\ K (.tup []) h' /\ NotHeld ops s o.guard):=by
 unfold zcq
 cases hg:o.guard with
 | none=>
  rw [hg] at hx
  exact .inl ⟨fun _=>rfl,hx,fun _ _ e=>by cases e⟩
 | some p=>
  obtain ⟨j,b⟩:=p
  rw [hg] at hx hG
  simp only [A.gdO,Bx.okG] at hx hG
  cases ht:zjv ops j with
  | none=>rw [ht] at hx;exact hx.elim
  | some t=>
   rw [ht] at hx hG
   simp only at hx hG ⊢
   rw [hR.cl t hG] at hx
   cases hv:s t<;>rw [hv] at hx<;>(try exact hx.elim)
   ·rename_i b'
    simp only [A.gd] at hx
    by_cases e:b'=b
    ·refine .inl ⟨fun _=>by simp [ht,hv,e],hx.1 e,fun j' b'' e'=> ?_⟩
     cases e'
     exact ⟨t,ht,by rw [hv,e]⟩
    ·exact .inr ⟨fun _=>by simp [ht,hv,e],hx.2 e,j,b,t,rfl,ht,by rw [hv];simpa using e⟩
   ·rename_i l
    cases l with
    | nil=>exact .inr ⟨fun _=>by simp [ht,hv],hx,j,b,t,rfl,ht,by rw [hv];simp⟩
    | cons _ _=>exact hx.elim
theorem zqr {o:Oper} (hR:RelB I s' h' s h β) (ho:o.op.operands.toList.all I.okO=true) (hG:I.okG ops o.guard=true) (H:za):zcq P ops o s' H=zcq P ops o s H:=by
 have h1: ∀ x∈o.op.operands,evS s' x=evS s x:=fun x hx=>zi7 hR (List.all_eq_true.1 ho x (by simpa using hx))
 unfold zcq
 split
 ·exact zjy h1
 ·rename_i j b hg
  rw [hg] at hG
  simp only [Bx.okG] at hG
  cases ht:zjv ops j with
  | none=>rfl
  | some t=>
   rw [ht] at hG
   simp only [hR.cl t hG]
   split
   ·split
    ·exact zjy h1
    ·rfl
   ·rfl
   ·rfl
def Goal (P:Program) (C:CSem) (I:Bx) (ops:List Oper) (o:Oper) (ks:List (Operand×TypeId)) (E:BEnv) (s:zcf) (h:za) (K:BEnv->zcf->za->Prop):Prop:=
 (zcq P ops o s h).run C h (A.keep h (zed P s ks) fun v h1=> ∃ s1' h1' β1,RelB I s1' h1' (putS s o.dst v) h1 β1 /\ zkx I ops (envB P I ops o E) s1' (putS s o.dst v) β1 /\ K (envB P I ops o E) s1' h1')
theorem zml (hR:RelB I s' h' s h β) (hE:zkx I ops E s' s β): ∀ (ks:List (Operand×TypeId)) (k:List (Operand×TypeId)->Prop),zjq I E s' ks k ->
  ∃ ks',k ks' /\ (∀ q∈ks',I.okO q.1=true) /\ ∀ q∈ks,q∈ks' \/ (∃ id,evS s q.1= .tup [] \/ ∃ off b,evS s q.1= .ptr id 0 off /\ h id=some b /\ h' id=none)
 | [],k,hx=>⟨[],hx,fun _ h=>(by cases h),fun _ h=>(by cases h)⟩
 | (x,ty)::r,k,hx=>by
  have other:I.okO x=true->zjq I E s' r (fun l=>k ((x,ty)::l))-> ∃ ks',k ks' /\ (∀ q∈ks',I.okO q.1=true) /\ ∀ q∈(x,ty)::r,q∈ks' \/ (∃ id,evS s q.1= .tup [] \/ ∃ off b,evS s q.1= .ptr id 0 off /\ h id=some b /\ h' id=none):=fun ho hx=>by
   obtain ⟨l,k1,k2,k3⟩:=zml hR hE r _ hx
   refine ⟨(x,ty)::l,k1,fun q hq=> ?_,fun q hq=> ?_⟩
   ·rcases List.mem_cons.1 hq with rfl|hq
    ·exact ho
    ·exact k2 q hq
   ·rcases List.mem_cons.1 hq with rfl|hq
    ·exact .inl (List.mem_cons_self ..)
    ·rcases k3 q hq with e|e
     ·exact .inl (List.mem_cons_of_mem _ e)
     ·exact .inr e
  have skip:(∃ id,evS s x= .tup [] \/ ∃ off b,evS s x= .ptr id 0 off /\ h id=some b /\ h' id=none)->zjq I E s' r k-> ∃ ks',k ks' /\ (∀ q∈ks',I.okO q.1=true) /\ ∀ q∈(x,ty)::r,q∈ks' \/ (∃ id,evS s q.1= .tup [] \/ ∃ off b,evS s q.1= .ptr id 0 off /\ h id=some b /\ h' id=none):=fun hp hx=>by
   obtain ⟨l,k1,k2,k3⟩:=zml hR hE r _ hx
   refine ⟨l,k1,k2,fun q hq=> ?_⟩
   rcases List.mem_cons.1 hq with rfl|hq
   ·exact .inr hp
   ·exact k3 q hq
  cases x<;>(try exact other rfl hx)
  rename_i t
  simp only [zjq] at hx
  cases hb:memB I.bs t with
  | true=>
   rw [hb] at hx
   simp only [cond_true,A.al] at hx
   split at hx
   ·rename_i cs hc
    obtain ⟨k1,k2,k3⟩:=hR.bx t cs hb hc
    exact skip ⟨β t,.inr ⟨0,_,k1,k2,k3⟩⟩ hx
   ·exact hx.elim
  | false=>
   rw [hb] at hx
   simp only [cond_false] at hx
   cases hc:I.clean t with
   | true=>rw [hc] at hx;exact other hc hx
   | false=>
    rw [hc] at hx
    simp only [cond_false] at hx
    cases hm:memB (E.map (·.1)) t with
    | false=>rw [hm] at hx;exact hx.elim
    | true=>
     rw [hm] at hx
     have: ∃ g d off,(t,g,d,off)∈E:=by
      have mem: ∀ (E:BEnv),memB (E.map (·.1)) t=true-> ∃ g d off,(t,g,d,off)∈E:=by
       intro E
       induction E with
       | nil=>intro h;simp [memB] at h
       | cons a r ih=>
        intro h
        simp only [List.map_cons,memB] at h
        cases ha:Nat.beq a.1 t with
        | true=>
         have:=zpx ha
         obtain ⟨a1,a2,a3,a4⟩:=a
         simp only at this
         subst this
         exact ⟨a2,a3,a4,List.mem_cons_self ..⟩
        | false=>
         rw [ha] at h
         obtain ⟨g,d,off,k⟩:=ih h
         exact ⟨g,d,off,List.mem_cons_of_mem _ k⟩
      exact mem E hm
     obtain ⟨g,d,off,hmem⟩:=this
     have a:=hE _ _ _ _ hmem
     obtain ⟨cs,hcs⟩:=a.al
     obtain ⟨_,k2,k3⟩:=hR.bx d cs a.inBs hcs
     rcases a.at_ with e|⟨e,_⟩
     ·exact skip ⟨β d,.inr ⟨off,_,e,k2,k3⟩⟩ hx
     ·exact skip ⟨0,.inl e⟩ hx
theorem sameAt_of {H H1:za} {p:AVal} {n:Option Nat} {id:Nat} (hp:p= .tup [] \/ ∃ off,p= .ptr id 0 off) (he:H1 id=H id):sameAt H1 H (p,n):=by
 rcases hp with rfl|⟨off,rfl⟩<;>cases n<;>simp [sameAt,A.ldv,A.ldnv,he]
theorem gen_sound (hC:CGood C) {o:Oper} {ks:List (Operand×TypeId)} {K:BEnv->zcf->za->Prop} (hR:RelB I s' h' s h β) (hE:zkx I ops E s' s β) (hok:chkG I ops o=true) (hen:envB P I ops o E=ziv ops o.dst E) (hx:genB P C I ops o ks E s' h' K):Goal P C I ops o ks E s h K:=by
 unfold genB at hx
 simp only [chkG,Bool.and_eq_true] at hok
 obtain ⟨ho,hd,hG⟩:=hok
 obtain ⟨ks',hx,hcl,hks⟩:=zml hR hE ks _ hx
 have H1:(zcq P ops o s' h').run C h' (A.zol h' (zed P s' ks') fun v h1=>K (ziv ops o.dst E) (putS s' o.dst v) h1) \/ ((∀ H,zcq P ops o s H= .val (.tup [])) /\ K (ziv ops o.dst E) (putS s' o.dst (.tup [])) h'):=by
  cases ks' with
  | nil=>
   refine .inl (zgf hC.mono (fun v h1 k=>⟨fun p hp=>(by cases hp),k⟩) (zjx.1 hx))
  | cons q r=>
   rcases gd_cases (P:=P) (o:=o) hR hG hx with ⟨k1,k2,k3⟩|⟨k1,k2,k3⟩
   ·refine .inl ?_
    have:=zkh.1 k2
    rw [show zcq P ops o s' h'=shOf P o.op (evS s') h' from ?_]
    ·exact this
    ·rw [zqr hR ho hG,k1]
     exact (zjy fun x hx=>zi7 hR (List.all_eq_true.1 ho x (by simpa using hx))).symm
   ·exact .inr ⟨k1,k2⟩
 unfold Goal
 rw [hen]
 rcases H1 with H1|⟨k1,k2⟩
 ·rw [zqr hR ho hG] at H1
  have hnf:zcq P ops o s h'≠ .fail:=fun e=>by rw [e] at H1;exact H1
  rw [zkz hR.le hnf]
  refine zgf hC.mono (fun v h1 ⟨h1',⟨m0,m1⟩,m2,m3⟩=>⟨fun p hp=> ?_,_,h1',β,rel_put hR hd m2 m3,env_kill hE hd,m1⟩) (run_frame hC hR.le zn6 H1)
  simp only [zed,List.mem_map] at hp
  obtain ⟨q,hq,rfl⟩:=hp
  rcases hks q hq with hq|⟨id,hq⟩
  ·have:=m0 (evS s' q.1,bif zd1 P q.2 then some (P.cellsOf q.2) else none) (List.mem_map.2 ⟨q,hq,rfl⟩)
   rw [zi7 hR (hcl q hq)] at this
   cases hn:(bif zd1 P q.2 then some (P.cellsOf q.2) else none) with
   | none=>
    rw [hn] at this
    obtain ⟨x,x1,x2⟩:=this
    simp only
    rw [zk1 m2 x2,zk1 hR.le x1]
   | some n=>
    rw [hn] at this
    obtain ⟨x,x1,x2⟩:=this
    simp only
    rw [ldnv_le m2 x2,ldnv_le hR.le x1]
  ·rcases hq with e|⟨off,b,e,e1,e2⟩
   ·rw [e]
    cases (bif zd1 P q.2 then some (P.cellsOf q.2) else none)<;>simp [A.ldv,A.ldnv]
   ·exact sameAt_of (id:=id) (.inr ⟨off,e⟩) (by rw [(m3 id e2 b e1).1,e1])
 ·rw [k1]
  exact ⟨fun p _=>sameAt.refl h p,_,h',β,rel_put hR hd hR.le (Fr.refl h' h),env_kill hE hd,k2⟩
end
end Go.Ab
