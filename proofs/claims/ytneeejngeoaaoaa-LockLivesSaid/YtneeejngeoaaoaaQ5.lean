/- What is proved: a part of the way to the statement: AbY. No conditions. -/
import Derived.Test.YtneeejngeoaaoaaQ4
import Derived.WalkKit
import Derived.OpenShut
set_option linter.unusedVariables false
set_option linter.unusedSimpArgs false
namespace Go.Ab
open List
open Go.RowKit (Below)
open Go.ChangeShapes Go.WideShapes Go.ChangeAt Go.RowKit
def zsm(H:zb):Ty->za->Prop | .st fs,v=>∃cs,v= .agg cs /\ zmr H fs cs|ty,v=>zii H ty [v]
def AbsArgs(H:zb):List Ty->List za->Prop|[],vs=>vs=[]|t::ts,vs=>∃a r,vs=a::r /\ zsm H t a /\ AbsArgs H ts r
theorem zsm.mono{H H':zb}(hle:H.le H'):∀{t:Ty}{v:za},zsm H t v->zsm H' t v | .st fs,_,⟨cs,e,h⟩=>⟨cs,e,zmr.mono hle fs cs h⟩ | .b,_,h=>zii.mono hle .b _ h | .i k,_,h=>zii.mono hle (.i k) _ h | .s,_,h=>zii.mono hle .s _ h | .sl b e t,_,h=>zii.mono hle (.sl b e t) _ h
def tysOf(P:Program)(n:Nat):List TypeId->Option (List Ty)
 | []=>some []
 | t::ts=>bif P.readableRec t&&Nat.blt t P.types.size then (match tyOf P n t,tysOf P n ts with
  | some y,some ys=>some (y::ys)
  | _,_=>none) else none
section
variable{HT:Type}{enc:TypeId×Value->HT}{P:Program}{W:World}
theorem oks_agg{H:zb}:∀{t:Ty}{cs:List za},(∀fs,t≠ .st fs)->zii H t cs->∃v,cs=[v] | .st fs,_,h,_=>absurd rfl (h fs) | .b,_,_,⟨_,e⟩=>⟨_,e⟩ | .i _,_,_,⟨_,e,_⟩=>⟨_,e⟩ | .s,_,_,⟨_,e,_⟩=>⟨_,e⟩ | .sl _ _ _,_,_,.inl e=>⟨_,e⟩ | .sl _ _ _,_,_,.inr (.inl e)=>⟨_,e⟩ | .sl _ _ _,_,_,.inr (.inr ⟨_,_,e,_⟩)=>⟨_,e⟩
theorem cells_single{v:Value}(h:v.oneCell'=true):v.cells.toList=[v]:=by rw[zgy h]
theorem arg_read{n:Nat}{t:TypeId}{ty:Ty}{v:Value}{d:DataW HT}{ps:List MemPlace}{base:Nat}(ht:tyOf P n t=some ty)(hv:Value.okWide P W .any base t v)
  (hd:DataW.Trod enc P W 0 (λ_=>true) true t v d ps) (hw:∀m∈d.weights P t,m <= reachBytes):
  ∀(ρ:zdr)(H:zb),RO W ρ H->∃(ρ':zdr)(H':zb)(a:za),RO W ρ' H' /\ ρ.le ρ' /\ H.le H' /\ zfj ρ' a v /\ zsm H' ty a:=by
 obtain⟨fuel,hd⟩:=hd;obtain⟨k1,_,k3⟩:=zp6 n t ty ht fuel _ d ps hd hw;intro ρ H hR;obtain⟨ρ',H',acs,m1,m2,m3,m4,m5⟩:=k1 ρ H hR;have one:∀{u:Value},v=u->u.oneCell'=true->(∀fs,ty≠ .st fs)->∃(ρ':zdr)(H':zb)(a:za),RO W ρ' H' /\ ρ.le ρ' /\ H.le H' /\ zfj ρ' a v /\ zsm H' ty a:=λ{u} e h1 hst=>by
  subst e;rw[cells_single h1]at m4;obtain⟨a,rfl⟩:=oks_agg hst m5;obtain⟨u,us,q1,q2,q3⟩:=m4;cases q1;refine⟨ρ',H',a,m1,m2,m3,q2,?_⟩;cases ty with
  | st fs=>exact absurd rfl (hst fs)
  | _=>exact m5
 cases n with
 | zero=>simp[tyOf]at ht
 | succ n=>
  simp only[tyOf]at ht;split at ht<;>(try (cases ht;done))
  ·rename_i hu
   obtain⟨b,e⟩:=okWide_bool hu hv;have:∀fs,ty≠ .st fs:=λfs e=>by subst e;cases hc:Nat.beq (P.cellsOf t) 1<;>rw[hc]at ht<;>cases ht
   exact one e rfl this
  ·rename_i hu
   obtain⟨b,e⟩:=okWide_int hu hv;have:∀fs,ty≠ .st fs:=λfs e=>by subst e;cases hc:Nat.beq (P.cellsOf t) 1<;>rw[hc]at ht<;>cases ht
   exact one e rfl this
  ·rename_i hu
   obtain⟨b,e⟩:=okWide_string hu hv;have:∀fs,ty≠ .st fs:=λfs e=>by subst e;cases hc:Nat.beq (P.cellsOf t) 1<;>rw[hc]at ht<;>cases ht
   exact one e rfl this
  ·rename_i e' hu
   obtain⟨a,len,cap,e⟩:=okWide_slice hu hv;have:∀fs,ty≠ .st fs:=λfs e=>by subst e;cases hc:(Nat.beq (P.cellsOf t) 1&&Nat.ble 1 (P.cellsOf e'))<;>rw[hc]at ht<;>(try (cases ht;done))<;>cases hy:tyOf P n e'<;>rw[hy]at ht<;>cases ht
   exact one e rfl this
  ·rename_i fs hu
   obtain⟨cs,e,_⟩:=okWide_struct hu hv;subst e;cases hc:(zke P fs.toList 0==some (P.cellsOf t)) with
   | false=>rw[hc]at ht;cases ht
   | true=>
    rw[hc]at ht;cases hj:joinT (fs.toList.map λf=>tyOf P n f.type) with
    | none=>rw[hj]at ht;cases ht
    | some l=>
     rw[hj]at ht;cases ht;exact⟨ρ',H',.agg acs,m1,m2,m3,⟨cs.toList,by simp,m4,k3⟩,acs,rfl,m5⟩
theorem args_read{n base:Nat}:∀{ts:List TypeId}{tys:List Ty}{vs:List Value}{ds:List (DataW HT)}{ps:List MemPlace},tysOf P n ts=some tys ->
  (∀(j:Nat) t v,ts[j]?=some t->vs[j]?=some v->Value.okWide P W .any base t v)->DataW.TrodAll enc P W 0 (λ_=>true) true ts vs ds ps ->
  (∀m∈DataW.weightsEach P ts ds,m <= reachBytes)->∀(ρ:zdr)(H:zb),RO W ρ H ->
  ∃(ρ':zdr)(H':zb)(as:List za),RO W ρ' H' /\ ρ.le ρ' /\ H.le H' /\ zd0 ρ' as vs /\ AbsArgs H' tys as
 | [],tys,[],[],_,ht,_,_,_,ρ,H,hR=>by
  simp only[tysOf,Option.some.injEq]at ht
  subst ht
  exact⟨ρ,H,[],hR,zdr.le_refl ρ,zb.le_refl H,rfl,rfl⟩
 | t::ts,tys,v::vs,d::ds,ps,ht,hv,⟨p,q,h1,h2,_⟩,hw,ρ,H,hR=>by
  simp only[tysOf]at ht
  cases hc:(P.readableRec t&&Nat.blt t P.types.size) with
  | false=>rw[hc]at ht;cases ht
  | true=>
   rw[hc]at ht
   cases hy:tyOf P n t with
   | none=>rw[hy]at ht;cases ht
   | some y=>
    cases hys:tysOf P n ts with
    | none=>rw[hy,hys]at ht;cases ht
    | some ys=>
     rw[hy,hys]at ht
     cases ht
     simp only[DataW.weightsEach,mem_append]at hw
     obtain⟨ρ1,H1,a,k1,k2,k3,k4,k5⟩:=arg_read hy (hv 0 t v rfl rfl) h1 (λm hm=>hw m (.inl hm)) ρ H hR
     obtain⟨ρ2,H2,as,m1,m2,m3,m4,m5⟩:=args_read hys (λj t v h h'=>hv (j+1) t v (by simpa using h) (by simpa using h')) h2 (λm hm=>hw m (.inr hm)) ρ1 H1 k1
     exact⟨ρ2,H2,a::as,m1,zdr.le_trans k2 m2,zb.le_trans k3 m3,⟨v,vs,rfl,k4.mono m2,m4⟩,a,as,rfl,k5.mono m3,m5⟩
 | [],_,_::_,_,_,_,_,h,_,_,_,_=>by simp[DataW.TrodAll]at h
 | [],_,[],_::_,_,_,_,h,_,_,_,_=>by simp[DataW.TrodAll]at h
 | _::_,_,[],_,_,_,_,h,_,_,_,_=>by simp[DataW.TrodAll]at h
 | _::_,_,_::_,[],_,_,_,h,_,_,_,_=>by simp[DataW.TrodAll]at h
theorem zmg:∀{ts:List TypeId}{vs:List Value}{ds:List (DataW HT)}{ps:List MemPlace}{b:Nat}{sp:Nat->Bool}{hd:Bool},DataW.TrodAll enc P W b sp hd ts vs ds ps->ds.length=ts.length
 | [],[],[],_,_,_,_,_=>rfl
 | _::ts,_::vs,_::ds,_,_,_,_,⟨_,_,_,h,_⟩=>by simp[zmg h]
 | [],_::_,_,_,_,_,_,h=>by simp[DataW.TrodAll]at h
 | [],[],_::_,_,_,_,_,h=>by simp[DataW.TrodAll]at h
 | _::_,[],_,_,_,_,_,h=>by simp[DataW.TrodAll]at h
 | _::_,_::_,[],_,_,_,_,h=>by simp[DataW.TrodAll]at h
theorem args_stay{W':World}{n:Nat}(hl:laidOutB P=true)(hb:Below W.heap.size W W'):∀{ts:List TypeId}{tys:List Ty}{vs:List Value}{ds:List (DataW HT)}{ps:List MemPlace},tysOf P n ts=some tys ->
  (∀x∈ps,x.block<W.heap.size)->DataW.TrodAll enc P W 0 (λ_=>true) true ts vs ds ps->DataW.TrodAll enc P W' 0 (λb=>decide (b<W.heap.size)) true ts vs ds ps
 | [],_,[],[],_,_,_,h=>h
 | t::ts,tys,v::vs,d::ds,ps,ht,hlt,⟨p,q,h1,h2,e⟩=>by
  simp only[tysOf]at ht
  cases hc:(P.readableRec t&&Nat.blt t P.types.size) with
  | false=>rw[hc]at ht;cases ht
  | true=>
   rw[hc]at ht
   cases hys:tysOf P n ts with
   | none=>rw[hys]at ht;cases hy:tyOf P n t<;>rw[hy]at ht<;>cases ht
   | some ys=>
    subst e
    rw[Bool.and_eq_true,Nat.blt_eq]at hc
    exact⟨p,q,Below.trod hl hc.1 hc.2 h1 hb λx hx=>hlt x (mem_append_left _ hx),args_stay hl hb hys (λx hx=>hlt x (mem_append_right _ hx)) h2,rfl⟩
 | [],_,_::_,_,_,_,_,h=>by simp[DataW.TrodAll]at h
 | [],_,[],_::_,_,_,_,h=>by simp[DataW.TrodAll]at h
 | _::_,_,[],_,_,_,_,h=>by simp[DataW.TrodAll]at h
 | _::_,_,_::_,[],_,_,_,h=>by simp[DataW.TrodAll]at h
theorem law_contract{P:Program}{fn:Func}{f:Nat}{s:ChangeSpec}{n:Nat}{tys:List Ty}{tb:TypeId}(hl:laidOutB P=true)(ht:tysOf P n fn.params.toList=some tys)
  (hvs:s.vars=[]) (hfn:∀(H:Type)(ds:List (DataW H)),ds.length=fn.params.size->s.fn H ds={ results:=[.lit (.bool true)],args:=ds })
  (hres:fn.resultTypes= #[tb]) (htb:P.underlying tb=some .bool)
  (hent:∀(va:Array Value)(w:World),(callFunc f va).run P w= .ok (.enter f va) w) (hAC:∀(H:zb)(as:List za),AbsArgs H tys as->AC P f as H λv _=>v= .bool true)
  {W:World} {base:Nat} {args:Array Value} {ds gs:List (DataW HT)} {before:List MemPlace}
  (hval:∀(j:Nat) t v,fn.params[j]?=some t->args[j]?=some v->Value.okWide P W .any base t v)
  (hW:DataW.Whole enc P fn.params.toList s.vars false W args.toList ds gs before)
  (hwt:(DataW.weightsEach P (fn.params.toList++s.plain.varTypes P) (ds++gs)).all (· <= reachBytes)=true):
  Calls P f args W λe W'=>∃v,e= .returned v /\ s.post enc P fn false true false false W args v W':=by
 have hW':=hW;obtain⟨p,q,hA,hV,hb,hfz,hnd⟩:=hW;rw[hvs]at hV;obtain⟨rfl,rfl⟩:=trodVars_none hV;have hvt:s.plain.varTypes P=[]:=by simp[DataSpec.varTypes,ChangeSpec.plain,hvs]
 rw[hvt,append_nil,append_nil,all_eq_true]at hwt;obtain⟨ρ,H,as,k1,_,_,k4,k5⟩:=args_read ht (λj t v h1 h2=>hval j t v (by simpa using h1) (by simpa using h2)) hA (λm hm=>by simpa using hwt m hm) _ _ (RO.start W);have hcl:Calls P f args.toList.toArray W λe w'=>∃v,e= .returned v /\ znc W ρ H H (λv _=>v= .bool true) v w':=by
  rcases (hAC H as k5 W ρ H W args.toList (zb.le_refl H) k1.rel (.inl k4)).1 k4.noY with h|⟨v,w',h,_⟩
  ·exact h.2
  ·rw[hent]at h;cases h
 refine Calls.mono hcl λe W' ⟨v,e1,e2⟩=>⟨v,e1,?_⟩;obtain⟨a,ρ',h',H',_,m2,m3,_,_,m6⟩:=e2.ex;subst m3;cases m2;have hlt:∀x∈before,x.block<W.heap.size:=λx hx=>hW'.lt x hx;have hp:before=p:=by rw[hb,append_nil]
 have hlen:=zmg hA;have hsp:=hfn HT ds (by simpa using hlen);refine⟨ds,[],before,[],p,[],hW',?_,?_,?_,m6.below.frame _,λh=>by cases h⟩
 ·rw[append_nil,hsp,hres]
  exact trodAll_cons_mk (shut_bool htb _) trodAll_mk0
 ·rw[append_nil,hsp]
  exact args_stay hl m6.below ht (by rw[<-hp];exact hlt) hA
 ·rw[append_nil,hsp,hvs]
  rfl
end
end Go.Ab
