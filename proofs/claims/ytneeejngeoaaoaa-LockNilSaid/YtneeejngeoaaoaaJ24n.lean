/- What is proved: the statement, joined. No conditions. -/
import Derived.Test.YtneeejngeoaaoaaRows
import Derived.Test.YtneeejngeoaaoaaQ6
import Derived.Test.YtneeejngeoaaoaaQ7
import Derived.WalkKit
import Derived.ProofKit
import Derived.OpenShut
set_option linter.unusedVariables false
set_option linter.unusedSimpArgs false
set_option maxRecDepth 100000
namespace Go.Proofs.Ytneeejngeoaaoaa
open Go.Ab Go.Ab.S24
open Go.ChangeShapes Go.WideShapes Go.ChangeAt Go.RowKit
theorem own:ownKnob Try.prog.godebug=none:=by kernel_rfl
theorem laid:laidOutB Try.prog=true:=by kernel_rfl
theorem zoa:zek.Spec (AC P) N:=zek.spec zek.imp
theorem zd7:zba.Spec (AC P) N:=zba.spec zba.imp
theorem zfj:zby.Spec (AC P) N:=zby.spec zby.imp
theorem zmc:zc5.Spec (AC P) N:=zc5.spec zc5.imp (AC_cmono P) zfj
theorem zie:zcp.Spec (AC P) N:=zcp.spec zcp.imp zmc
theorem zfa:NextI (AC P) (N 298):=zcb.spec zcb.imp
theorem zfk:LenI (AC P) (N 287):=zde.spec zde.imp z9.imp
theorem ze4:PowI (AC P) (N 299):=zcs.spec zcs.imp zfk
theorem zjg:zc6.Spec (AC P) N:=zc6.spec zc6.imp
theorem zjs:zc4.Spec (AC P) N:=zc4.spec zc4.imp zjg
theorem zea:zbd.Spec (AC P) N:=zbd.spec zbd.imp zbj.imp zb8.imp zcl.imp z7.imp zbt.imp zbx.imp zbs.imp zcf.imp zbr.imp zbk.imp zcr.imp zcq.imp zcd.imp zfa ze4 zfk zjs
theorem zgl:z8.Spec (AC P) N:=z8.spec z8.imp zie zea
theorem zd8:zf.Spec (AC P) N:=zf.spec zf.imp
theorem zjr:zq.Spec (AC P) N:=zq.spec zq.imp zd7 zfj zgl zd8
theorem zjf:zbv.Spec (AC P) N:=zbv.spec zbv.imp zd7
theorem zf9:zbf.Spec (AC P) N:=zbf.spec zbf.imp zd7 zgl
theorem zit:zcy.Spec (AC P) N:=zcy.spec zcy.imp
theorem zjh:zcw.Spec (AC P) N:=zcw.spec zcw.imp zit
theorem zgj:zbe.Spec (AC P) N:=zbe.spec zbe.imp zbg.imp zb1.imp zce.imp z5.imp zbp.imp zbu.imp zbm.imp zb9.imp zbl.imp zbh.imp zcn.imp zcm.imp zb7.imp zfa ze4 zfk zjh
theorem zhk:zb3.Spec (AC P) N:=zb3.spec zb3.imp zcx.imp zb2.imp zgj
theorem zis:zbn.Spec (AC P) N:=zbn.spec zbn.imp (AC_good P) zbc.imp zp.imp zd7 zhk
theorem zfq:zbz.Spec (AC P) N:=zbz.spec zbz.imp
theorem zif:zb4.Spec (AC P) N:=zb4.spec zb4.imp zbb.imp zf9 zfq
theorem zhu:zcc.Spec (AC P) N:=zcc.spec zcc.imp zc3.imp zcg.imp zea
theorem zir:zn.Spec (AC P) N:=zn.spec zn.imp (AC_good P) zx.imp zl.imp zd7 zif zfq zea zhu
theorem zkf:zc7.Spec (AC P) N:=zc7.spec zc7.imp
theorem zkg:zc8.Spec (AC P) N:=zc8.spec zc8.imp
theorem zlr:zdl.Spec (AC P) N:=zdl.spec zdl.imp zoa zjr zjf zf9 zis zir zkf zkg
theorem zeb:zba.zgu (AC P) N:=zba.spo zba.imp
theorem zjq:zbv.zgu (AC P) N:=zbv.spo zbv.imp zeb
theorem zkd:zq.zgu (AC P) N:=zq.spo zq.imp zeb
theorem zje:zbn.zgu (AC P) N:=zbn.spo zbn.imp zeb
theorem zjc:zbf.zgu (AC P) N:=zbf.spo zbf.imp zeb
theorem zjd:zn.zgu (AC P) N:=zn.spo zn.imp zeb
theorem zke:zb5.Spec (AC P) N:=zb5.spec zb5.imp zlr zjq zkd zje zjc zjd
theorem lockNil_AC(H:zb)(vs:List za)(h:AbsArgs H [.i .i64,.s] vs):AC P 4 vs H λv _=>v= .bool true:=by
 obtain⟨a,r,rfl,⟨n,e1,_⟩,b,r1,rfl,⟨s,e2,_⟩,rfl⟩:=h;cases e1;cases e2;exact zke H n s _ rfl
theorem zo1(os:Os)(started:os.Started)(H:Type)(enc:TypeId×Value->H):
  ReturnsInHanded {} Try.checked os 4 .any (Rows.lockNilSpec.pre6 enc Try.prog Try.f4 Rows.lockNilRow.domain false) (Rows.lockNilSpec.post enc Try.prog Try.f4 false true false false):=by
 refine returnsInHanded_of_change_sized (C:=Try.checked) own started (by kernel_rfl) Try.func4
  (ChangeSpec.witness6 (enc:=enc) (C:=Try.checked) false ⟨#[], #[.int .i64 0,.string ⟨#[]⟩],[]⟩ 8 (by kernel_rfl) (by kernel_rfl) (by kernel_rfl) (by kernel_rfl)) ?_
 intro W base args ds gs before hval hW _ hwt _
 exact law_contract (n:=6) (tb:=4) laid (by kernel_rfl) rfl (λH ds h=>by
  have h:ds.length=2:=h
  match ds,h with
  | [a,b],_=>rfl) (by kernel_rfl) (by kernel_rfl) (zku Try.func4 (by kernel_rfl) (by kernel_rfl)) lockNil_AC hval hW hwt
theorem lockNil:Rows.LockNilSaid:=
 OpenClaim.holds_of_wide 4 Try.f4 rfl rfl rfl rfl rfl rfl rfl ⟨rfl,rfl,rfl,rfl,rfl⟩ rfl rfl rfl rfl rfl (by kernel_rfl) Try.func4 (by kernel_rfl)
  (of_decide_eq_true (by kernel_rfl)) (by unfold Func.isWrapper;first|(rw[if_pos (by decide +kernel)];kernel_rfl)|(rw[if_neg (by decide +kernel)];exact⟨rfl,rfl⟩))
  (λos started H enc _=>zo1 os started H enc)
#print axioms lockNil
end Go.Proofs.Ytneeejngeoaaoaa
