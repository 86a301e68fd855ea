/- What is proved: the statement, joined. No conditions. -/
import Derived.Test.YtneeejngeoaaoaaGreatRows
import Derived.Test.YtneeejngeoaaoaaGreatQ6
import Derived.Test.YtneeejngeoaaoaaGreatQ7
import Derived.Test.YtneeejngeoaaoaaGreatQ9
import Derived.WalkKit
import Derived.ProofKit
import Derived.OpenShut
set_option linter.unusedVariables false
set_option linter.unusedSimpArgs false
set_option maxRecDepth 100000
namespace Go.Proofs.YtneeejngeoaaoaaGreat
open Go.Ab Go.Ab.S24z
open Go.ChangeShapes Go.WideShapes Go.ChangeAt Go.RowKit
theorem own:ownKnob Tryz.prog.godebug=none:=by kernel_rfl
theorem laid:laidOutB Tryz.prog=true:=by kernel_rfl
theorem zm4:zf3.Spec (AC P) N:=zf3.spec zf3.imp
theorem zfk:zc5.Spec (AC P) N:=zc5.spec zc5.imp
theorem zh1:zcb.Spec (AC P) N:=zcb.spec zcb.imp
theorem zqw:zdv.Spec (AC P) N:=zdv.spec zdv.imp (AC_cmono P) zh1
theorem zln:zc7.Spec (AC P) N:=zc7.spec zc7.imp zqw
theorem zhn:NextI (AC P) (N 298):=zcq.spec zcq.imp
theorem zh5:LenI (AC P) (N 287):=zd9.spec zd9.imp zbn.imp
theorem zhg:PowI (AC P) (N 299):=zdb.spec zdb.imp zh5
theorem zmu:zdy.Spec (AC P) N:=zdy.spec zdy.imp
theorem zm6:zdu.Spec (AC P) N:=zdu.spec zdu.imp zmu
theorem zfz:zbq.Spec (AC P) N:=zbq.spec zbq.imp zby.imp zcm.imp zc1.imp zbl.imp zb7.imp zca.imp zb5.imp zcv.imp zb4.imp zbz.imp zc9.imp zc8.imp zct.imp zhn zhg zh5 zm6
theorem zjf:zbm.Spec (AC P) N:=zbm.spec zbm.imp zln zfz
theorem zfl:zg.Spec (AC P) N:=zg.spec zg.imp
theorem zju:z8.Spec (AC P) N:=z8.spec z8.imp zfk zh1 zjf zfl
theorem zjg:zda.Spec (AC P) N:=zda.spec zda.imp zfk
theorem zf8:zcd.Spec (AC P) N:=zcd.spec zcd.imp zfk zjf
theorem zl5:zdq.Spec (AC P) N:=zdq.spec zdq.imp
theorem zmv:zdn.Spec (AC P) N:=zdn.spec zdn.imp zl5
theorem zjd:zbt.Spec (AC P) N:=zbt.spec zbt.imp zbv.imp zce.imp zcu.imp zbk.imp zb2.imp zb8.imp zb1.imp zcn.imp zb0.imp zbw.imp zc3.imp zc2.imp zcl.imp zhn zhg zh5 zmv
theorem zkg:zcg.Spec (AC P) N:=zcg.spec zcg.imp zdp.imp zcf.imp zjd
theorem zg8:zcx.Spec (AC P) N:=zcx.spec zcx.imp (AC_good P) zbp.imp zu.imp zfk zkg
theorem zie:zcc.Spec (AC P) N:=zcc.spec zcc.imp
theorem zlo:zch.Spec (AC P) N:=zch.spec zch.imp zbo.imp zf8 zie
theorem zkt:zcr.Spec (AC P) N:=zcr.spec zcr.imp zdt.imp zcw.imp zfz
theorem zg7:zy.Spec (AC P) N:=zy.spec zy.imp (AC_good P) zba.imp zn.imp zfk zlo zie zfz zkt
theorem zh6:zdk.Spec (AC P) N:=zdk.spec zdk.imp
theorem zh7:zdl.Spec (AC P) N:=zdl.spec zdl.imp
theorem zp5:zec.Spec (AC P) N:=zec.spec zec.imp zm4 zju zjg zf8 zg8 zg7 zh6 zh7
theorem zp4:zcs.Spec (AC P) N:=zcs.spec zcs.imp
theorem ztb:zf9.Spec (AC P) N:=zf9.spec zf9.imp
theorem zf7:zbu.Spec (AC P) N:=zbu.spec zbu.imp
theorem zmi:zef.Spec (AC P) N:=zef.spec zef.imp
theorem zr1:zdz.Spec (AC P) N:=zdz.spec zdz.imp
theorem zqv:zde.Spec (AC P) N:=zde.spec zde.imp zmi
theorem zky:zd7.Spec (AC P) N:=zd7.spec zd7.imp zqv
theorem zmp:zj.Spec (AC P) N:=zj.spec zj.imp zf7 zmi zr1 zky
theorem zl2:zc6.Spec (AC P) N:=zc6.spec zc6.imp zf7
theorem zg9:zd4.Spec (AC P) N:=zd4.spec zd4.imp
theorem zoi:zd0.Spec (AC P) N:=zd0.spec zd0.imp zg9
theorem zoj:zdm.Spec (AC P) N:=zdm.spec zdm.imp zg9
theorem zoh:zd8.Spec (AC P) N:=zd8.spec zd8.imp zg9
theorem zqx:zej.Spec (AC P) N:=zej.spec zej.imp ztb zju zjg zmp zl2 zoi zoj zoh
theorem zlm:zco.Spec (AC P) N:=zco.spec zco.imp zf7
theorem zim:zb6.Spec (AC P) N:=zb6.spec zb6.imp
theorem zit:zbd.Spec (AC P) N:=zbd.spec zbd.imp zf7 zky zim
theorem zlk:zw.Spec (AC P) N:=zw.spec zw.imp zit zim
theorem zp3:zdw.Spec (AC P) N:=zdw.spec zdw.imp
theorem zll:zr.Spec (AC P) N:=zr.spec zr.imp zlk zim zp3
theorem zqy:zed.Spec (AC P) N:=zed.spec zed.imp zg8 zf8 zg7 zlm zit zll zh6 zh7
theorem zl3:zpq (AC P) 3 (N 405):=zd1.spec zd1.imp
theorem zn3:zdc (AC P) (N 80):=zfn.zlp zfn.zlv
theorem zpe:zdc (AC P) (N 81):=zgf.zlp zgf.zlv
theorem zta:zgs.Spec (AC P) N:=zgs.spec zgs.imp
theorem zoc:zgb (AC P) 1 (N 82):=zl.spec zl.imp zta
theorem zn6:zgb (AC P) 1 (N 83):=zet.spec zet.imp zg9
theorem zog:zdc (AC P) (N 84):=zfy.zlp zfy.zlv
theorem zmr:zdc (AC P) (N 85):=zev.zlp zev.zlv
theorem zpd:zdc (AC P) (N 86):=zge.zlp zge.zlv
theorem zn4:zdc (AC P) (N 87):=zfo.zlp zfo.zlv
theorem zpb:zdc (AC P) (N 88):=zgc.zlp zgc.zlv
theorem zoa:zdc (AC P) (N 89):=zft.zlp zft.zlv
theorem zoe:zdc (AC P) (N 90):=zfw.zlp zfw.zlv
theorem zod:zdc (AC P) (N 91):=zfv.zlp zfv.zlv
theorem zpf:zdc (AC P) (N 92):=zgg.zlp zgg.zlv
theorem zn7:zdc (AC P) (N 93):=zfq.zlp zfq.zlv
theorem zm5:zdc (AC P) (N 94):=zfa.zlp zfa.zlv
theorem zpc:zdc (AC P) (N 95):=zgd.zlp zgd.zlv
theorem zn5:zdc (AC P) (N 96):=zfp.zlp zfp.zlv
theorem zof:zdc (AC P) (N 97):=zfx.zlp zfx.zlv
theorem zmt:zdc (AC P) (N 98):=zex.zlp zex.zlv
theorem zob:zdc (AC P) (N 99):=zfu.zlp zfu.zlv
theorem zms:zdc (AC P) (N 100):=zew.zlp zew.zlv
theorem zn9:zdc (AC P) (N 101):=zfs.zlp zfs.zlv
theorem zn8:zdc (AC P) (N 102):=zfr.zlp zfr.zlv
theorem zkh:zvi (AC P) bagTL (N 62):=zeh.spg zeh.imp zn3 zpe zoc zn6 zog zmr zpd zn4 zpb zoa zoe zod zpf zn7 zm5 zpc zn5 zof zmt zob zms zn9 zn8
theorem zok:zgb (AC P) 1 (N 396):=zdf.spg zdf.imp zl3 zkh
theorem zl4:zpq (AC P) 2 (N 550):=zd2.spec zd2.imp
theorem zol:zgb (AC P) 1 (N 548):=zdg.spg zdg.imp zl4 zkh
theorem zmq:zo.Spec (AC P) N:=zo.spec zo.imp zp5 zp4 zm4 zqx zqy zg8 zf8 zg7 zh6 zh7 zok zol
theorem lockApart_AC(H:zb)(vs:List za)(h:AbsArgs H [.sl 40 3 tyStep,.i .i64] vs):AC P 3 vs H λv _=>v= .bool true:=by
 obtain⟨x,r,rfl,hx,a,r1,rfl,⟨n1,e1,_⟩,rfl⟩:=h;cases e1;obtain⟨L,h1,h2,h3⟩:=dSteps hx;exact zmq x L n1 H _ h1 h2 h3 rfl
theorem zr4(os:Os)(started:os.Started)(H:Type)(enc:TypeId×Value->H):
  ReturnsInHanded {} Tryz.checked os 3 .any (Rows.lockApartSpec.pre6 enc Tryz.prog Tryz.f3 Rows.lockApartRow.domain false) (Rows.lockApartSpec.post enc Tryz.prog Tryz.f3 false true false false):=by
 refine returnsInHanded_of_change_sized (C:=Tryz.checked) own started (by kernel_rfl) Tryz.func3
  (ChangeSpec.witness6 (enc:=enc) (C:=Tryz.checked) false ⟨#[], #[.slice none 0 0,.int .i64 0],[]⟩ 8 (by kernel_rfl) (by kernel_rfl) (by kernel_rfl) (by kernel_rfl)) ?_
 intro W base args ds gs before hval hW _ hwt _
 exact law_contract (n:=6) (tb:=4) laid (by kernel_rfl) rfl (λH ds h=>by
  have h:ds.length=2:=h
  match ds,h with
  | [a,b],_=>rfl) (by kernel_rfl) (by kernel_rfl) (zoz Tryz.func3 (by kernel_rfl) (by kernel_rfl)) lockApart_AC hval hW hwt
theorem lockApart:Rows.LockApartSaid:=
 OpenClaim.holds_of_wide 3 Tryz.f3 rfl rfl rfl rfl rfl rfl rfl ⟨rfl,rfl,rfl,rfl,rfl⟩ rfl rfl rfl rfl rfl (by kernel_rfl) Tryz.func3 (by kernel_rfl)
  (of_decide_eq_true (by kernel_rfl)) (by unfold Func.isWrapper;first|(rw[if_pos (by decide +kernel)];kernel_rfl)|(rw[if_neg (by decide +kernel)];exact⟨rfl,rfl⟩))
  (λos started H enc _=>zr4 os started H enc)
#print axioms lockApart
end Go.Proofs.YtneeejngeoaaoaaGreat
