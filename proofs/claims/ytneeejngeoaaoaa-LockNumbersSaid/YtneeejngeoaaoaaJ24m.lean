/- What is proved: the statement, joined. No conditions. -/
import Derived.Test.YtneeejngeoaaoaaRows
import Derived.Test.YtneeejngeoaaoaaQ2
import Derived.Test.YtneeejngeoaaoaaQ3
import Derived.Test.YtneeejngeoaaoaaQ8
import Derived.WalkKit
import Derived.ProofKit
import Derived.OpenShut
set_option linter.unusedVariables false
set_option linter.unusedSimpArgs false
set_option maxRecDepth 100000
namespace Go.Proofs.Ytneeejngeoaaoaa
open Go.Ab Go.Ab.S24
open Go.ChangeShapes Go.WideShapes Go.ChangeAt Go.RowKit
theorem own:ownKnob Try.prog.godebug=none:=by kernel_rfl
theorem zi7:zez.Spec (AC P) N:=zez.spec zez.imp
theorem ze1:zcz.Spec (AC P) N:=zcz.spec zcz.imp
theorem zgu:zb6.Spec (AC P) N:=zb6.spec zb6.imp
theorem zok:zdo.Spec (AC P) N:=zdo.spec zdo.imp (AC_cmono P) zgu
theorem zka:zc1.Spec (AC P) N:=zc1.spec zc1.imp zok
theorem zgf:NextI (AC P) (N 298):=zci.spec zci.imp
theorem zgw:LenI (AC P) (N 287):=zdx.spec zdx.imp zbi.imp
theorem zga:PowI (AC P) (N 299):=zc5.spec zc5.imp zgw
theorem zlb:zdq.Spec (AC P) N:=zdq.spec zdq.imp
theorem zlk:zdm.Spec (AC P) N:=zdm.spec zdm.imp zlb
theorem ze8:zbl.Spec (AC P) N:=zbl.spec zbl.imp zbs.imp zcf.imp zcv.imp zbf.imp zb1.imp zb5.imp zbz.imp zcn.imp zby.imp zbt.imp zc3.imp zc2.imp zcl.imp zgf zga zgw zlk
theorem zh1:zbg.Spec (AC P) N:=zbg.spec zbg.imp zka ze8
theorem ze4:zg.Spec (AC P) N:=zg.spec zg.imp
theorem zgg:zu.Spec (AC P) N:=zu.spec zu.imp ze1 zgu zh1 ze4
theorem zf8:zcp.Spec (AC P) N:=zcp.spec zcp.imp ze1
theorem zf1:zcq.Spec (AC P) N:=zcq.spec zcq.imp ze1 zh1
theorem zkr:zdg.Spec (AC P) N:=zdg.spec zdg.imp
theorem zlc:zdd.Spec (AC P) N:=zdd.spec zdd.imp zkr
theorem zhz:zbn.Spec (AC P) N:=zbn.spec zbn.imp zbp.imp zb8.imp zcm.imp zbd.imp zbw.imp zb2.imp zbv.imp zcg.imp zbu.imp zbq.imp zcx.imp zcw.imp zce.imp zgf zga zgw zlc
theorem zi6:zca.Spec (AC P) N:=zca.spec zca.imp zdf.imp zb9.imp zhz
theorem zhm:zc4.Spec (AC P) N:=zc4.spec zc4.imp (AC_good P) zbk.imp zq.imp ze1 zi6
theorem zg0:zb7.Spec (AC P) N:=zb7.spec zb7.imp
theorem zkb:zcb.Spec (AC P) N:=zcb.spec zcb.imp zbj.imp zf1 zg0
theorem zjj:zcj.Spec (AC P) N:=zcj.spec zcj.imp zdj.imp zco.imp ze8
theorem zhl:zw.Spec (AC P) N:=zw.spec zw.imp (AC_good P) z4.imp zm.imp ze1 zkb zg0 ze8 zjj
theorem ziq:zdk.Spec (AC P) N:=zdk.spec zdk.imp
theorem zir:zdl.Spec (AC P) N:=zdl.spec zdl.imp
theorem zjp:zd2.Spec (AC P) N:=zd2.spec zd2.imp zi7 zgg zf8 zf1 zhm zhl ziq zir
theorem znr:zck.Spec (AC P) N:=zck.spec zck.imp
theorem zqp:zfg.Spec (AC P) N:=zfg.spec zfg.imp
theorem zff:zbo.Spec (AC P) N:=zbo.spec zbo.imp
theorem zk3:zd3.Spec (AC P) N:=zd3.spec zd3.imp
theorem zpq:zdr.Spec (AC P) N:=zdr.spec zdr.imp
theorem zoj:zc7.Spec (AC P) N:=zc7.spec zc7.imp zk3
theorem zjo:zdu.Spec (AC P) N:=zdu.spec zdu.imp zoj
theorem zk9:zj.Spec (AC P) N:=zj.spec zj.imp zff zk3 zpq zjo
theorem zkq:zc0.Spec (AC P) N:=zc0.spec zc0.imp zff
theorem zg6:zdw.Spec (AC P) N:=zdw.spec zdw.imp
theorem zmg:zds.Spec (AC P) N:=zds.spec zds.imp zg6
theorem zmh:zdc.Spec (AC P) N:=zdc.spec zdc.imp zg6
theorem zmf:zdv.Spec (AC P) N:=zdv.spec zdv.imp zg6
theorem zol:zd7.Spec (AC P) N:=zd7.spec zd7.imp zqp zgg zf8 zk9 zkq zmg zmh zmf
theorem zj9:zch.Spec (AC P) N:=zch.spec zch.imp zff
theorem zg5:zb0.Spec (AC P) N:=zb0.spec zb0.imp
theorem zhb:z8.Spec (AC P) N:=z8.spec z8.imp zff zjo zg5
theorem zj7:zr.Spec (AC P) N:=zr.spec zr.imp zhb zg5
theorem znq:zdp.Spec (AC P) N:=zdp.spec zdp.imp
theorem zj8:zo.Spec (AC P) N:=zo.spec zo.imp zj7 zg5 znq
theorem zon:zd8.Spec (AC P) N:=zd8.spec zd8.imp zhm zf1 zhl zj9 zhb zj8 ziq zir
theorem zla:zz.Spec (AC P) N:=zz.spec zz.imp zjp znr zi7 zol zon
theorem zom:zbm.Spec (AC P) N:=zbm.spec zbm.imp zi7 zgg zf8 zla
theorem zkc:zct.Spec (AC P) N:=zct.spec zct.imp zom zjp
theorem zrm(H:zb):AC P 5 [] H λv _=>v= .bool true:=zkc H _ rfl
theorem znw(os:Os)(started:os.Started)(H:Type)(enc:TypeId×Value->H):
  ReturnsInHanded {} Try.checked os 5 .any (Rows.lockNumbersSpec.pre6 enc Try.prog Try.f5 Rows.lockNumbersRow.domain false) (Rows.lockNumbersSpec.post enc Try.prog Try.f5 false true false false):=by
 refine returnsInHanded_of_change_sized (C:=Try.checked) own started (by kernel_rfl) Try.func5
  (ChangeSpec.witness6 (enc:=enc) (C:=Try.checked) false ⟨#[], #[],[]⟩ 8 (by kernel_rfl) (by kernel_rfl) (by kernel_rfl) (by kernel_rfl)) ?_
 intro W base args ds gs before hval hW _ hwt _;exact law_closed (tb:=4) (by kernel_rfl) rfl (λH=>rfl) (by kernel_rfl) (by kernel_rfl) (zmu Try.func5 (by kernel_rfl) (by kernel_rfl)) zrm hW
theorem lockNumbers:Rows.LockNumbersSaid:=
 OpenClaim.holds_of_wide 5 Try.f5 rfl rfl rfl rfl rfl rfl rfl ⟨rfl,rfl,rfl,rfl,rfl⟩ rfl rfl rfl rfl rfl (by kernel_rfl) Try.func5 (by kernel_rfl)
  (of_decide_eq_true (by kernel_rfl)) (by unfold Func.isWrapper;first|(rw[if_pos (by decide +kernel)];kernel_rfl)|(rw[if_neg (by decide +kernel)];exact⟨rfl,rfl⟩))
  (λos started H enc _=>znw os started H enc)
#print axioms lockNumbers
end Go.Proofs.Ytneeejngeoaaoaa
