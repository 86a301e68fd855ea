/- What is proved: the statement, joined. No conditions. -/
import Derived.Test.YtneeejngeoaaoaaRows
import Derived.Test.YtneeejngeoaaoaaQ6
import Derived.Test.YtneeejngeoaaoaaQ8
import Derived.WalkKit
import Derived.ProofKit
import Derived.OpenShut
set_option linter.unusedVariables false
set_option linter.unusedSimpArgs false
set_option maxRecDepth 100000
namespace Go.Proofs.Ytneeejngeoaaoaa
open Go.Ab Go.Ab.S24
open Go.ChangeShapes Go.WideShapes Go.ChangeAt Go.RowKit
theorem own:ownKnob Try.prog.godebug=none:=by kernel_rfl
theorem laid:laidOutB Try.prog=true:=by kernel_rfl
theorem zlf:ze9.Spec (AC P) N:=ze9.spec ze9.imp
theorem zey:zcw.Spec (AC P) N:=zcw.spec zcw.imp
theorem zgm:zb5.Spec (AC P) N:=zb5.spec zb5.imp
theorem zoi:zdl.Spec (AC P) N:=zdl.spec zdl.imp (AC_cmono P) zgm
theorem zj6:zcy.Spec (AC P) N:=zcy.spec zcy.imp zoi
theorem zga:NextI (AC P) (N 298):=zch.spec zch.imp
theorem zgp:LenI (AC P) (N 287):=zdx.spec zdx.imp zbi.imp
theorem zf4:PowI (AC P) (N 299):=zc3.spec zc3.imp zgp
theorem zk6:zdn.Spec (AC P) N:=zdn.spec zdn.imp
theorem zlg:zdk.Spec (AC P) N:=zdk.spec zdk.imp zk6
theorem ze5:zbl.Spec (AC P) N:=zbl.spec zbl.imp zbr.imp zce.imp zcs.imp zbf.imp zb1.imp zb4.imp zbz.imp zcm.imp zby.imp zbs.imp zc0.imp zcz.imp zck.imp zga zf4 zgp zlg
theorem zhw:zbg.Spec (AC P) N:=zbg.spec zbg.imp zj6 ze5
theorem ze2:zg.Spec (AC P) N:=zg.spec zg.imp
theorem zid:zy.Spec (AC P) N:=zy.spec zy.imp zey zgm zhw ze2
theorem zhx:zc1.Spec (AC P) N:=zc1.spec zc1.imp zey
theorem zfy:zco.Spec (AC P) N:=zco.spec zco.imp zey zhw
theorem zkl:zdd.Spec (AC P) N:=zdd.spec zdd.imp
theorem zk7:zdb.Spec (AC P) N:=zdb.spec zdb.imp zkl
theorem zhu:zbm.Spec (AC P) N:=zbm.spec zbm.imp zbo.imp zb7.imp zcl.imp zbc.imp zbw.imp zb2.imp zbu.imp zcf.imp zbt.imp zbp.imp zcu.imp zct.imp zcd.imp zga zf4 zgp zk7
theorem zi2:zb9.Spec (AC P) N:=zb9.spec zb9.imp zdc.imp zb8.imp zhu
theorem zhi:zc2.Spec (AC P) N:=zc2.spec zc2.imp (AC_good P) zbk.imp zq.imp zey zi2
theorem zgv:zb6.Spec (AC P) N:=zb6.spec zb6.imp
theorem zj7:zca.Spec (AC P) N:=zca.spec zca.imp zbj.imp zfy zgv
theorem zjf:zci.Spec (AC P) N:=zci.spec zci.imp zdh.imp zcn.imp ze5
theorem zhh:zw.Spec (AC P) N:=zw.spec zw.imp (AC_good P) z4.imp zm.imp zey zj7 zgv ze5 zjf
theorem zik:zdi.Spec (AC P) N:=zdi.spec zdi.imp
theorem zil:zdj.Spec (AC P) N:=zdj.spec zdj.imp
theorem znp:zd6.Spec (AC P) N:=zd6.spec zd6.imp zlf zid zhx zfy zhi zhh zik zil
theorem zno:zcj.Spec (AC P) N:=zcj.spec zcj.imp
theorem zqo:zfe.Spec (AC P) N:=zfe.spec zfe.imp
theorem zfd:zbn.Spec (AC P) N:=zbn.spec zbn.imp
theorem zkw:zd1.Spec (AC P) N:=zd1.spec zd1.imp
theorem zpj:zdp.Spec (AC P) N:=zdp.spec zdp.imp
theorem zoh:zc4.Spec (AC P) N:=zc4.spec zc4.imp zkw
theorem zjj:zdu.Spec (AC P) N:=zdu.spec zdu.imp zoh
theorem zk4:zj.Spec (AC P) N:=zj.spec zj.imp zfd zkw zpj zjj
theorem zkk:zcx.Spec (AC P) N:=zcx.spec zcx.imp zfd
theorem zg2:zdw.Spec (AC P) N:=zdw.spec zdw.imp
theorem zmb:zdq.Spec (AC P) N:=zdq.spec zdq.imp zg2
theorem zmc:zda.Spec (AC P) N:=zda.spec zda.imp zg2
theorem zma:zdv.Spec (AC P) N:=zdv.spec zdv.imp zg2
theorem zoj:zd4.Spec (AC P) N:=zd4.spec zd4.imp zqo zid zhx zk4 zkk zmb zmc zma
theorem zj5:zcg.Spec (AC P) N:=zcg.spec zcg.imp zfd
theorem zg1:zb0.Spec (AC P) N:=zb0.spec zb0.imp
theorem zg7:z7.Spec (AC P) N:=z7.spec z7.imp zfd zjj zg1
theorem zj3:zr.Spec (AC P) N:=zr.spec zr.imp zg7 zg1
theorem znn:zdm.Spec (AC P) N:=zdm.spec zdm.imp
theorem zj4:zo.Spec (AC P) N:=zo.spec zo.imp zj3 zg1 znn
theorem zok:zd5.Spec (AC P) N:=zd5.spec zd5.imp zhi zfy zhh zj5 zg7 zj4 zik zil
theorem zk5:zz.Spec (AC P) N:=zz.spec zz.imp znp zno zlf zoj zok
theorem lockLives_AC(H:zb)(vs:List za)(h:AbsArgs H [.sl 40 3 tyStep] vs):AC P 3 vs H λv _=>v= .bool true:=by
 obtain⟨x,r,rfl,hx,rfl⟩:=h;obtain⟨L,h1,h2,h3⟩:=dSteps hx;exact zk5 x L H _ h1 h2 h3 rfl
theorem zpl(os:Os)(started:os.Started)(H:Type)(enc:TypeId×Value->H):
  ReturnsInHanded {} Try.checked os 3 .any (Rows.lockLivesSpec.pre6 enc Try.prog Try.f3 Rows.lockLivesRow.domain false) (Rows.lockLivesSpec.post enc Try.prog Try.f3 false true false false):=by
 refine returnsInHanded_of_change_sized (C:=Try.checked) own started (by kernel_rfl) Try.func3
  (ChangeSpec.witness6 (enc:=enc) (C:=Try.checked) false ⟨#[], #[.slice none 0 0],[]⟩ 8 (by kernel_rfl) (by kernel_rfl) (by kernel_rfl) (by kernel_rfl)) ?_
 intro W base args ds gs before hval hW _ hwt _
 exact law_contract (n:=6) (tb:=4) laid (by kernel_rfl) rfl (λH ds h=>by
  have h:ds.length=1:=h
  match ds,h with
  | [a],_=>rfl) (by kernel_rfl) (by kernel_rfl) (zmq Try.func3 (by kernel_rfl) (by kernel_rfl)) lockLives_AC hval hW hwt
theorem lockLives:Rows.LockLivesSaid:=
 OpenClaim.holds_of_wide 3 Try.f3 rfl rfl rfl rfl rfl rfl rfl ⟨rfl,rfl,rfl,rfl,rfl⟩ rfl rfl rfl rfl rfl (by kernel_rfl) Try.func3 (by kernel_rfl)
  (of_decide_eq_true (by kernel_rfl)) (by unfold Func.isWrapper;first|(rw[if_pos (by decide +kernel)];kernel_rfl)|(rw[if_neg (by decide +kernel)];exact⟨rfl,rfl⟩))
  (λos started H enc _=>zpl os started H enc)
#print axioms lockLives
end Go.Proofs.Ytneeejngeoaaoaa
