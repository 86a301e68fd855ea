/- What is proved: the statement, joined. No conditions. -/
import Derived.Test.YtneeejngeoaaoaaRows
import Derived.Test.YtneeejngeoaaoaaQ6
import Derived.Test.YtneeejngeoaaoaaQ7
import Derived.WalkKit
import Derived.ProofKit
import Derived.OpenShut
set_option linter.unusedVariables false
set_option linter.unusedSimpArgs false
set_option maxRecDepth 100000
namespace Go.Proofs.Ytneeejngeoaaoaa
open Go.Ab Go.Ab.S24
open Go.ChangeShapes Go.WideShapes Go.ChangeAt Go.RowKit
theorem own:ownKnob Try.prog.godebug=none:=by kernel_rfl
theorem laid:laidOutB Try.prog=true:=by kernel_rfl
theorem zj2:zeh.Spec (AC P) N:=zeh.spec zeh.imp
theorem zea:zco.Spec (AC P) N:=zco.spec zco.imp
theorem zfn:zbw.Spec (AC P) N:=zbw.spec zbw.imp
theorem zmt:zc7.Spec (AC P) N:=zc7.spec zc7.imp (AC_cmono P) zfn
theorem ziw:zcr.Spec (AC P) N:=zcr.spec zcr.imp zmt
theorem zff:NextI (AC P) (N 298):=zca.spec zca.imp
theorem zfp:LenI (AC P) (N 287):=zdg.spec zdg.imp zba.imp
theorem ze9:PowI (AC P) (N 299):=zcu.spec zcu.imp zfp
theorem zjq:zc9.Spec (AC P) N:=zc9.spec zc9.imp
theorem zj3:zc6.Spec (AC P) N:=zc6.spec zc6.imp zjq
theorem zed:zbd.Spec (AC P) N:=zbd.spec zbd.imp zbj.imp zb5.imp zck.imp z8.imp zbt.imp zbv.imp zbr.imp zcf.imp zbq.imp zbk.imp zct.imp zcs.imp zcd.imp zff ze9 zfp zj3
theorem zgw:z9.Spec (AC P) N:=z9.spec z9.imp ziw zed
theorem zeb:zf.Spec (AC P) N:=zf.spec zf.imp
theorem zhc:zu.Spec (AC P) N:=zu.spec zu.imp zea zfn zgw zeb
theorem zgx:zcp.Spec (AC P) N:=zcp.spec zcp.imp zea
theorem ze3:zby.Spec (AC P) N:=zby.spec zby.imp zea zgw
theorem zi9:zc1.Spec (AC P) N:=zc1.spec zc1.imp
theorem zjr:zcy.Spec (AC P) N:=zcy.spec zcy.imp zi9
theorem zgu:zbf.Spec (AC P) N:=zbf.spec zbf.imp zbg.imp zbz.imp zce.imp z7.imp zbo.imp zbu.imp zbm.imp zb6.imp zbl.imp zbh.imp zcm.imp zcl.imp zb4.imp zff ze9 zfp zjr
theorem zhy:zb1.Spec (AC P) N:=zb1.spec zb1.imp zc0.imp zb0.imp zgu
theorem zgh:zb7.Spec (AC P) N:=zb7.spec zb7.imp (AC_good P) zbc.imp zp.imp zea zhy
theorem zfv:zbx.Spec (AC P) N:=zbx.spec zbx.imp
theorem zix:zb2.Spec (AC P) N:=zb2.spec zb2.imp zbb.imp ze3 zfv
theorem zib:zcb.Spec (AC P) N:=zcb.spec zcb.imp zc5.imp zcg.imp zed
theorem zi8:zw.Spec (AC P) N:=zw.spec zw.imp (AC_good P) zy.imp zm.imp zea zix zfv zed zib
theorem zhj:zc2.Spec (AC P) N:=zc2.spec zc2.imp
theorem zks:zdc.Spec (AC P) N:=zdc.spec zdc.imp
theorem zl5:zdn.Spec (AC P) N:=zdn.spec zdn.imp zj2 zhc zgx ze3 zgh zi8 zhj zks
theorem zl4:zb8.Spec (AC P) N:=zb8.spec zb8.imp
theorem zow:zei.Spec (AC P) N:=zei.spec zei.imp
theorem zl3:zcc.Spec (AC P) N:=zcc.spec zcc.imp
theorem zkr:zk.Spec (AC P) N:=zk.spec zk.imp zl5 zl4 zj2 zhc zgx ze3 zgh zhj zow zl3
theorem lockOne_AC(H:zb)(vs:List za)(h:AbsArgs H [.sl 40 3 tyStep] vs):AC P 6 vs H λv _=>v= .bool true:=by
 obtain⟨x,r,rfl,hx,rfl⟩:=h;obtain⟨L,h1,h2,h3⟩:=dSteps hx;exact zkr x L H _ h1 h2 h3 rfl
theorem zpn(os:Os)(started:os.Started)(H:Type)(enc:TypeId×Value->H):
  ReturnsInHanded {} Try.checked os 6 .any (Rows.lockOneSpec.pre6 enc Try.prog Try.f6 Rows.lockOneRow.domain false) (Rows.lockOneSpec.post enc Try.prog Try.f6 false true false false):=by
 refine returnsInHanded_of_change_sized (C:=Try.checked) own started (by kernel_rfl) Try.func6
  (ChangeSpec.witness6 (enc:=enc) (C:=Try.checked) false ⟨#[], #[.slice none 0 0],[]⟩ 8 (by kernel_rfl) (by kernel_rfl) (by kernel_rfl) (by kernel_rfl)) ?_
 intro W base args ds gs before hval hW _ hwt _
 exact law_contract (n:=6) (tb:=4) laid (by kernel_rfl) rfl (λH ds h=>by
  have h:ds.length=1:=h
  match ds,h with
  | [a],_=>rfl) (by kernel_rfl) (by kernel_rfl) (zk6 Try.func6 (by kernel_rfl) (by kernel_rfl)) lockOne_AC hval hW hwt
theorem lockOne:Rows.LockOneSaid:=
 OpenClaim.holds_of_wide 6 Try.f6 rfl rfl rfl rfl rfl rfl rfl ⟨rfl,rfl,rfl,rfl,rfl⟩ rfl rfl rfl rfl rfl (by kernel_rfl) Try.func6 (by kernel_rfl)
  (of_decide_eq_true (by kernel_rfl)) (by unfold Func.isWrapper;first|(rw[if_pos (by decide +kernel)];kernel_rfl)|(rw[if_neg (by decide +kernel)];exact⟨rfl,rfl⟩))
  (λos started H enc _=>zpn os started H enc)
#print axioms lockOne
end Go.Proofs.Ytneeejngeoaaoaa
