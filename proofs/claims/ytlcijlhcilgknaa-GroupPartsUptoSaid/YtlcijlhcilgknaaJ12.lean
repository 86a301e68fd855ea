/- What is proved: the statement, joined. No conditions. -/
import Derived.Test.YtlcijlhcilgknaaRows
import Derived.Test.YtlcijlhcilgknaaQ6
import Derived.Test.YtlcijlhcilgknaaQ8
import Derived.Test.YtlcijlhcilgknaaQ9
import Derived.Deep.CondSized
import Derived.WalkKit
import Derived.ProofKit
import Derived.OpenShut
set_option linter.unusedVariables false
set_option linter.unusedSimpArgs false
set_option maxRecDepth 100000
namespace Go.Proofs.Ytlcijlhcilgknaa
open Go.Ab Go.Ab.S12
open Go.ChangeShapes Go.WideShapes Go.ChangeAt Go.RowKit
theorem own:ownKnob Try.prog.godebug=none:=by kernel_rfl
theorem laid:laidOutB Try.prog=true:=by kernel_rfl
theorem znr:zef.Spec (AC P) N:=zef.spec zef.imp
theorem zf9:zcj.Spec (AC P) N:=zcj.spec zcj.imp
theorem zkv:zdc.Spec (AC P) N:=zdc.spec zdc.imp zf9
theorem zin:zt.Spec (AC P) N:=zt.spec zt.imp zkv
theorem zgg:NextI (AC P) (N 298):=zcv.spec zcv.imp
theorem zgo:LenI (AC P) (N 287):=zdy.spec zdy.imp zbv.imp
theorem zgc:PowI (AC P) (N 299):=zda.spec zda.imp zgo
theorem zho:zdh.Spec (AC P) N:=zdh.spec zdh.imp
theorem zkw:zdj.Spec (AC P) N:=zdj.spec zdj.imp zho
theorem ze1:zbp.Spec (AC P) N:=zbp.spec zbp.imp zbz.imp zco.imp zcy.imp zbq.imp zcc.imp zch.imp zb8.imp zct.imp zb6.imp zb1.imp zc4.imp zc2.imp zcr.imp zgg zgc zgo zkw
theorem zej:zbg.Spec (AC P) N:=zbg.spec zbg.imp
theorem zju:zcn.Spec (AC P) N:=zcn.spec zcn.imp zho
theorem zg8:zbl.Spec (AC P) N:=zbl.spec zbl.imp zju
theorem znt:zeq.Spec (AC P) N:=zeq.spec zeq.imp zg8
theorem zgy:zbn.Spec (AC P) N:=zbn.spec zbn.imp zb0.imp zcp.imp zcz.imp zbr.imp zcd.imp zci.imp zb9.imp zcu.imp zb7.imp zc3.imp zc5.imp zb2.imp zcs.imp zgg zgc zgo znt
theorem zi6:zdo.Spec (AC P) N:=zdo.spec zdo.imp zin zf9 ze1 zej zgy
theorem zgp:zdn.Spec (AC P) N:=zdn.spec zdn.imp
theorem zj4:zdk.Spec (AC P) N:=zdk.spec zdk.imp zgp
theorem zff:zbi.Spec (AC P) N:=zbi.spec zbi.imp
theorem zh9:zcx.Spec (AC P) N:=zcx.spec zcx.imp zin zf9 ze1 zff zej
theorem zlt:zdv.Spec (AC P) N:=zdv.spec zdv.imp
theorem zf0:z7.Spec (AC P) N:=z7.spec z7.imp zbe.imp zlt
theorem zh1:zbx.Spec (AC P) N:=zbx.spec zbx.imp
theorem zhh:zl.Spec (AC P) N:=zl.spec zl.imp zh1
theorem zmi:zd6.Spec (AC P) N:=zd6.spec zd6.imp zhh ze1 zff zej
theorem zgh:z8.Spec (AC P) N:=z8.spec z8.imp
theorem zf8:zy.Spec (AC P) N:=zy.spec zy.imp
theorem zls:zdu.Spec (AC P) N:=zdu.spec zdu.imp
theorem zlr:zdt.Spec (AC P) N:=zdt.spec zdt.imp
theorem zmz:zn.Spec (AC P) N:=zn.spec zn.imp zf0 zh9 zmi zgh zf8 zls zlr
theorem zhn:zbt.Spec (AC P) N:=zbt.spec zbt.imp
theorem zgz:zbj.Spec (AC P) N:=zbj.spec zbj.imp zhn
theorem zgn:zbk.Spec (AC P) N:=zbk.spec zbk.imp
theorem zns:zb4.Spec (AC P) N:=zb4.spec zb4.imp zgz zgn zej
theorem zmy:zd7.Spec (AC P) N:=zd7.spec zd7.imp znr zi6 zj4 zh9 zgp zmz zns
theorem zmw:zbw.Spec (AC P) N:=zbw.spec zbw.imp
theorem zmx:zc7.Spec (AC P) N:=zc7.spec zc7.imp zmw
theorem zjm:zcm.Spec (AC P) N:=zcm.spec zcm.imp
theorem zlp:zd4.Spec (AC P) N:=zd4.spec zd4.imp
theorem zlo:zd3.Spec (AC P) N:=zd3.spec zd3.imp
theorem zmh:zd5.Spec (AC P) N:=zd5.spec zd5.imp zlp zlo
theorem zlq:zc8.Spec (AC P) N:=zc8.spec zc8.imp zmh
theorem zmv:zq.Spec (AC P) N:=zq.spec zq.imp zlq zi6 zjm zj4
theorem zkg:zg.Spec (AC P) N:=zg.spec zg.imp zmy zmx zi6 zjm zh9 zgp zmv
theorem groupParts_AC (H:za) (vs:List AVal) (h:AbsArgs H [.sl 72 4 tyItem] vs):AC P 3 vs H fun v _=>v= .bool true:=by
 obtain ⟨x,r,rfl,hx,rfl⟩:=h
 obtain ⟨L,h1,h2,h3⟩:=dItems hx
 exact zkg x L H _ h1 h2 h3 rfl
theorem zny (os:Os) (started:os.Started) (H:Type) (enc:TypeId×Value->H) (F:Stop.Interp):
  ReturnsInHanded {} Try.checked os 3 .any ((Rows.OpenSpec.upto Rows.groupPartsSpec).pre6 enc Try.prog Try.f3 Rows.groupPartsUptoRow.domain false) (((Rows.OpenSpec.upto Rows.groupPartsSpec).at F).post enc Try.prog Try.f3 false true false false):=by
 refine returnsInHanded_of_cond_sized (C:=Try.checked) (s:=Rows.OpenSpec.upto Rows.groupPartsSpec) (k:=Rows.uptoSmall) rfl own started (by kernel_rfl) Try.func3
  (OpenSpec.witness (enc:=enc) (C:=Try.checked) (s:=Rows.OpenSpec.upto Rows.groupPartsSpec) (k:=Rows.uptoSmall) rfl false ⟨#[], #[.slice none 0 0],[]⟩ 8 (by kernel_rfl) (by kernel_rfl) (by kernel_rfl)
   (x:=([.nil],[],[])) (by kernel_rfl) rfl (by kernel_rfl)) ?_
 intro W base args ds gs before hval hW _ _ hwt _
 exact law_contract (s:=Rows.groupPartsSpec) (n:=6) (tb:=4) laid (by kernel_rfl) rfl (fun H ds h=>by
  have h:ds.length=1:=h
  match ds,h with
  | [a],_=>rfl) (by kernel_rfl) (by kernel_rfl) (zl9 Try.func3 (by kernel_rfl) (by kernel_rfl)) groupParts_AC hval hW hwt
theorem groupParts:Rows.GroupPartsUptoSaid:=
 OpenClaim.holds_of_cond 3 Try.f3 rfl rfl rfl rfl rfl rfl rfl ⟨rfl,rfl,rfl,rfl,rfl⟩ rfl rfl rfl rfl rfl (by kernel_rfl) Try.func3 (by kernel_rfl)
  (of_decide_eq_true (by kernel_rfl)) (by unfold Func.isWrapper;first|(rw [if_pos (by decide +kernel)];kernel_rfl)|(rw [if_neg (by decide +kernel)];exact ⟨rfl,rfl⟩))
  (fun os started H enc _ F=>zny os started H enc F)
#print axioms groupParts
end Go.Proofs.Ytlcijlhcilgknaa
