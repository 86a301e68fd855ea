/- What is proved: the statement, joined. No conditions. -/
import Derived.Test.YtneeejngeoaaoaaRows
import Derived.Test.YtneeejngeoaaoaaQ6
import Derived.Test.YtneeejngeoaaoaaQ8
import Derived.WalkKit
import Derived.ProofKit
import Derived.OpenShut
set_option linter.unusedVariables false
set_option linter.unusedSimpArgs false
set_option maxRecDepth 100000
namespace Go.Proofs.Ytneeejngeoaaoaa
open Go.Ab Go.Ab.S24
open Go.ChangeShapes Go.WideShapes Go.ChangeAt Go.RowKit
theorem own:ownKnob Try.prog.godebug=none:=by kernel_rfl
theorem laid:laidOutB Try.prog=true:=by kernel_rfl
theorem zj1:zei.Spec (AC P) N:=zei.spec zei.imp
theorem zeb:zcq.Spec (AC P) N:=zcq.spec zcq.imp
theorem zfq:zbz.Spec (AC P) N:=zbz.spec zbz.imp
theorem zmy:zc8.Spec (AC P) N:=zc8.spec zc8.imp (AC_cmono P) zfq
theorem ziw:zcr.Spec (AC P) N:=zcr.spec zcr.imp zmy
theorem zfi:NextI (AC P) (N 298):=zcd.spec zcd.imp
theorem zfr:LenI (AC P) (N 287):=zdh.spec zdh.imp zbc.imp
theorem zfd:PowI (AC P) (N 299):=zcv.spec zcv.imp zfr
theorem zjs:zc9.Spec (AC P) N:=zc9.spec zc9.imp
theorem zj3:zc7.Spec (AC P) N:=zc7.spec zc7.imp zjs
theorem zee:zbf.Spec (AC P) N:=zbf.spec zbf.imp zbl.imp zb9.imp zcm.imp zba.imp zbv.imp zby.imp zbt.imp zch.imp zbs.imp zbm.imp zcu.imp zct.imp zcf.imp zfi zfd zfr zj3
theorem zgv:zbb.Spec (AC P) N:=zbb.spec zbb.imp ziw zee
theorem zec:zf.Spec (AC P) N:=zf.spec zf.imp
theorem zha:zu.Spec (AC P) N:=zu.spec zu.imp zeb zfq zgv zec
theorem zgw:zcj.Spec (AC P) N:=zcj.spec zcj.imp zeb
theorem ze6:zbu.Spec (AC P) N:=zbu.spec zbu.imp zeb zgv
theorem zja:zc1.Spec (AC P) N:=zc1.spec zc1.imp
theorem zjt:zcz.Spec (AC P) N:=zcz.spec zcz.imp zja
theorem zgt:zbh.Spec (AC P) N:=zbh.spec zbh.imp zbi.imp zb2.imp zcg.imp z9.imp zbq.imp zbw.imp zbo.imp zca.imp zbn.imp zbj.imp zco.imp zcn.imp zb8.imp zfi zfd zfr zjt
theorem zhx:zb4.Spec (AC P) N:=zb4.spec zb4.imp zc0.imp zb3.imp zgt
theorem zgi:zb1.Spec (AC P) N:=zb1.spec zb1.imp (AC_good P) zbe.imp zp.imp zeb zhx
theorem zfw:zb0.Spec (AC P) N:=zb0.spec zb0.imp
theorem zix:zb5.Spec (AC P) N:=zb5.spec zb5.imp zbd.imp ze6 zfw
theorem zh9:zce.Spec (AC P) N:=zce.spec zce.imp zc6.imp zci.imp zee
theorem zgh:zq.Spec (AC P) N:=zq.spec zq.imp (AC_good P) zy.imp zm.imp zeb zix zfw zee zh9
theorem zku:zdb.Spec (AC P) N:=zdb.spec zdb.imp
theorem zkv:zdc.Spec (AC P) N:=zdc.spec zdc.imp
theorem zl9:zdo.Spec (AC P) N:=zdo.spec zdo.imp zj1 zha zgw ze6 zgi zgh zku zkv
theorem zl8:zcb.Spec (AC P) N:=zcb.spec zcb.imp
theorem zoy:zej.Spec (AC P) N:=zej.spec zej.imp
theorem zj2:zi.Spec (AC P) N:=zi.spec zi.imp zl9 zl8 zj1 zha zgw ze6 zgi zgh zoy
theorem lockEnds_AC(H:zb)(vs:List za)(h:AbsArgs H [.sl 40 3 tyStep] vs):AC P 7 vs H λv _=>v= .bool true:=by
 obtain⟨x,r,rfl,hx,rfl⟩:=h;obtain⟨L,h1,h2,h3⟩:=dSteps hx;exact zj2 x L H _ h1 h2 h3 rfl
theorem zo4(os:Os)(started:os.Started)(H:Type)(enc:TypeId×Value->H):
  ReturnsInHanded {} Try.checked os 7 .any (Rows.lockEndsSpec.pre6 enc Try.prog Try.f7 Rows.lockEndsRow.domain false) (Rows.lockEndsSpec.post enc Try.prog Try.f7 false true false false):=by
 refine returnsInHanded_of_change_sized (C:=Try.checked) own started (by kernel_rfl) Try.func7
  (ChangeSpec.witness6 (enc:=enc) (C:=Try.checked) false ⟨#[], #[.slice none 0 0],[]⟩ 8 (by kernel_rfl) (by kernel_rfl) (by kernel_rfl) (by kernel_rfl)) ?_
 intro W base args ds gs before hval hW _ hwt _
 exact law_contract (n:=6) (tb:=4) laid (by kernel_rfl) rfl (λH ds h=>by
  have h:ds.length=1:=h
  match ds,h with
  | [a],_=>rfl) (by kernel_rfl) (by kernel_rfl) (zla Try.func7 (by kernel_rfl) (by kernel_rfl)) lockEnds_AC hval hW hwt
theorem lockEnds:Rows.LockEndsSaid:=
 OpenClaim.holds_of_wide 7 Try.f7 rfl rfl rfl rfl rfl rfl rfl ⟨rfl,rfl,rfl,rfl,rfl⟩ rfl rfl rfl rfl rfl (by kernel_rfl) Try.func7 (by kernel_rfl)
  (of_decide_eq_true (by kernel_rfl)) (by unfold Func.isWrapper;first|(rw[if_pos (by decide +kernel)];kernel_rfl)|(rw[if_neg (by decide +kernel)];exact⟨rfl,rfl⟩))
  (λos started H enc _=>zo4 os started H enc)
#print axioms lockEnds
end Go.Proofs.Ytneeejngeoaaoaa
