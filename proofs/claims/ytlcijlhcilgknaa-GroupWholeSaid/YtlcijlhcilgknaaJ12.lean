/- What is proved: the statement, joined. No conditions. -/
import Derived.Test.YtlcijlhcilgknaaRows
import Derived.Test.YtlcijlhcilgknaaQ6
import Derived.Test.YtlcijlhcilgknaaQ8
import Derived.Deep.CondSized
import Derived.WalkKit
import Derived.ProofKit
import Derived.OpenShut
set_option linter.unusedVariables false
set_option linter.unusedSimpArgs false
set_option maxRecDepth 100000
namespace Go.Proofs.Ytlcijlhcilgknaa
open Go.Ab Go.Ab.S12
open Go.ChangeShapes Go.WideShapes Go.ChangeAt Go.RowKit
theorem own:ownKnob Try.prog.godebug=none:=by kernel_rfl
theorem laid:laidOutB Try.prog=true:=by kernel_rfl
theorem zn0:zeg.Spec (AC P) N:=zeg.spec zeg.imp
theorem zgb:zch.Spec (AC P) N:=zch.spec zch.imp
theorem zk0:zdc.Spec (AC P) N:=zdc.spec zdc.imp zgb
theorem zis:zq.Spec (AC P) N:=zq.spec zq.imp zk0
theorem zgj:NextI (AC P) (N 298):=zcw.spec zcw.imp
theorem zgt:LenI (AC P) (N 287):=zd1.spec zd1.imp zbu.imp
theorem zgd:PowI (AC P) (N 299):=zda.spec zda.imp zgt
theorem zhu:zdk.Spec (AC P) N:=zdk.spec zdk.imp
theorem zk1:zdl.Spec (AC P) N:=zdl.spec zdl.imp zhu
theorem ze1:zbo.Spec (AC P) N:=zbo.spec zbo.imp zby.imp zcn.imp zcx.imp zbp.imp zcb.imp zcf.imp zb7.imp zct.imp zb5.imp zb0.imp zc4.imp zc2.imp zcr.imp zgj zgd zgt zk1
theorem zei:zbf.Spec (AC P) N:=zbf.spec zbf.imp
theorem zjx:zck.Spec (AC P) N:=zck.spec zck.imp zhu
theorem zhf:zbk.Spec (AC P) N:=zbk.spec zbk.imp zjx
theorem zn1:zep.Spec (AC P) N:=zep.spec zep.imp zhf
theorem zg4:zbm.Spec (AC P) N:=zbm.spec zbm.imp zbz.imp zco.imp zcy.imp zbq.imp zcc.imp zcg.imp zb8.imp zcu.imp zb6.imp zc3.imp zc5.imp zb1.imp zcs.imp zgj zgd zgt zn1
theorem zk6:zdo.Spec (AC P) N:=zdo.spec zdo.imp zis zgb ze1 zei zg4
theorem zfu:zdi.Spec (AC P) N:=zdi.spec zdi.imp
theorem zny:zdn.Spec (AC P) N:=zdn.spec zdn.imp zfu
theorem zfe:zbh.Spec (AC P) N:=zbh.spec zbh.imp
theorem zj8:zc1.Spec (AC P) N:=zc1.spec zc1.imp zis zgb ze1 zfe zei
theorem zly:zdy.Spec (AC P) N:=zdy.spec zdy.imp
theorem zf1:z6.Spec (AC P) N:=z6.spec z6.imp zbd.imp zly
theorem zh8:zbw.Spec (AC P) N:=zbw.spec zbw.imp
theorem zhn:zl.Spec (AC P) N:=zl.spec zl.imp zh8
theorem zmm:zd7.Spec (AC P) N:=zd7.spec zd7.imp zhn ze1 zfe zei
theorem zgk:z7.Spec (AC P) N:=z7.spec z7.imp
theorem zga:zw.Spec (AC P) N:=zw.spec zw.imp
theorem zlx:zdx.Spec (AC P) N:=zdx.spec zdx.imp
theorem zlw:zdw.Spec (AC P) N:=zdw.spec zdw.imp
theorem zjo:zn.Spec (AC P) N:=zn.spec zn.imp zf1 zj8 zmm zgk zga zlx zlw
theorem zht:zbt.Spec (AC P) N:=zbt.spec zbt.imp
theorem zg5:zbi.Spec (AC P) N:=zbi.spec zbi.imp zht
theorem zgs:zbj.Spec (AC P) N:=zbj.spec zbj.imp
theorem zj9:zbx.Spec (AC P) N:=zbx.spec zbx.imp zg5 zgs zei
theorem zm1:zd8.Spec (AC P) N:=zd8.spec zd8.imp zn0 zk6 zny zj8 zfu zjo zj9
theorem zmy:zbv.Spec (AC P) N:=zbv.spec zbv.imp
theorem zm0:zc8.Spec (AC P) N:=zc8.spec zc8.imp zmy
theorem znz:zcl.Spec (AC P) N:=zcl.spec zcl.imp zm0
theorem zlt:zdp.Spec (AC P) N:=zdp.spec zdp.imp
theorem zml:zd6.Spec (AC P) N:=zd6.spec zd6.imp zlt zfu
theorem zlv:zc9.Spec (AC P) N:=zc9.spec zc9.imp zml
theorem zmk:zd3.Spec (AC P) N:=zd3.spec zd3.imp
theorem zlu:zdq.Spec (AC P) N:=zdq.spec zdq.imp
theorem zls:zdv.Spec (AC P) N:=zdv.spec zdv.imp zlv zmk zlu
theorem zmz:zc7.Spec (AC P) N:=zc7.spec zc7.imp
theorem zki:zi.Spec (AC P) N:=zi.spec zi.imp zm1 znz zk6 zj9 zls zmz zjo zfu
theorem groupWhole_AC (H:za) (vs:List AVal) (h:AbsArgs H [.st tySta,.st tyAsk] vs):AC P 4 vs H fun v _=>v= .bool true:=by
 obtain ⟨a,r,rfl,⟨cs,rfl,ha⟩,b,r1,rfl,⟨ds,rfl,hb⟩,rfl⟩:=h
 obtain ⟨s,x,y,z,rfl,hs,hS⟩:=dStateS ha
 obtain ⟨k,item,lot,line,hA,hl⟩:=dAsk hb
 exact zki s x y z ds k item lot line H _ hs hS hA hl rfl
theorem zn5 (os:Os) (started:os.Started) (H:Type) (enc:TypeId×Value->H):
  ReturnsInHanded {} Try.checked os 4 .any (Rows.groupWholeSpec.pre6 enc Try.prog Try.f4 Rows.groupWholeRow.domain false) (Rows.groupWholeSpec.post enc Try.prog Try.f4 false true false false):=by
 refine returnsInHanded_of_change_sized (C:=Try.checked) own started (by kernel_rfl) Try.func4
  (ChangeSpec.witness6 (enc:=enc) (C:=Try.checked) false ⟨#[], #[.agg #[.int .i64 0,.int .i64 0,.int .i64 0,.slice none 0 0,.slice none 0 0,.slice none 0 0],.agg #[.int .u8 0,.int .i64 0,.string ⟨#[]⟩,.int .i64 0,.int .i64 0,.int .i64 0,.int .i64 0,.int .i64 0,.int .i64 0,.slice none 0 0,.slice none 0 0]],[]⟩ 8 (by kernel_rfl) (by kernel_rfl) (by kernel_rfl) (by kernel_rfl)) ?_
 intro W base args ds gs before hval hW _ hwt _
 exact law_contract (n:=6) (tb:=4) laid (by kernel_rfl) rfl (fun H ds h=>by
  have h:ds.length=2:=h
  match ds,h with
  | [a,b],_=>rfl) (by kernel_rfl) (by kernel_rfl) (zmd Try.func4 (by kernel_rfl) (by kernel_rfl)) groupWhole_AC hval hW hwt
theorem groupWhole:Rows.GroupWholeSaid:=
 OpenClaim.holds_of_wide 4 Try.f4 rfl rfl rfl rfl rfl rfl rfl ⟨rfl,rfl,rfl,rfl,rfl⟩ rfl rfl rfl rfl rfl (by kernel_rfl) Try.func4 (by kernel_rfl)
  (of_decide_eq_true (by kernel_rfl)) (by unfold Func.isWrapper;first|(rw [if_pos (by decide +kernel)];kernel_rfl)|(rw [if_neg (by decide +kernel)];exact ⟨rfl,rfl⟩))
  (fun os started H enc _=>zn5 os started H enc)
#print axioms groupWhole
end Go.Proofs.Ytlcijlhcilgknaa
