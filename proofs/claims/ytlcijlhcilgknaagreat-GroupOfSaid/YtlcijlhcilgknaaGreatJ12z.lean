/- What is proved: the statement, joined. No conditions. -/
import Derived.Test.YtlcijlhcilgknaaGreatRows
import Derived.Test.YtlcijlhcilgknaaGreatQ6
import Derived.Test.YtlcijlhcilgknaaGreatQ7
import Derived.Test.YtlcijlhcilgknaaGreatQ9
import Derived.WalkKit
import Derived.ProofKit
import Derived.OpenShut
set_option linter.unusedVariables false
set_option linter.unusedSimpArgs false
set_option maxRecDepth 100000
namespace Go.Proofs.YtlcijlhcilgknaaGreat
open Go.Ab Go.Ab.S12z
open Go.ChangeShapes Go.WideShapes Go.ChangeAt Go.RowKit
theorem own:ownKnob Tryz.prog.godebug=none:=by kernel_rfl
theorem laid:laidOutB Tryz.prog=true:=by kernel_rfl
theorem zqq:zfc.Spec (AC P) N:=zfc.spec zfc.imp
theorem zhs:zct.Spec (AC P) N:=zct.spec zct.imp
theorem zm0:zdp.Spec (AC P) N:=zdp.spec zdp.imp zhs
theorem zki:zt.Spec (AC P) N:=zt.spec zt.imp zm0
theorem zh1:NextI (AC P) (N 298):=zc7.spec zc7.imp
theorem zid:LenI (AC P) (N 287):=zeq.spec zeq.imp zb2.imp
theorem zhu:PowI (AC P) (N 299):=zdl.spec zdl.imp zid
theorem zjf:zdu.Spec (AC P) N:=zdu.spec zdu.imp
theorem zm1:zdy.Spec (AC P) N:=zdy.spec zdy.imp zjf
theorem zf1:zbw.Spec (AC P) N:=zbw.spec zbw.imp zb9.imp zcy.imp zda.imp zbx.imp zcm.imp zcr.imp zcj.imp zc4.imp zch.imp zcb.imp zdh.imp zdf.imp zc2.imp zh1 zhu zid zm1
theorem zfe:zbi.Spec (AC P) N:=zbi.spec zbi.imp
theorem zls:zcx.Spec (AC P) N:=zcx.spec zcx.imp zjf
theorem ziw:zbo.Spec (AC P) N:=zbo.spec zbo.imp zls
theorem zqs:zfn.Spec (AC P) N:=zfn.spec zfn.imp ziw
theorem zil:zbu.Spec (AC P) N:=zbu.spec zbu.imp zca.imp zcz.imp zdb.imp zby.imp zcn.imp zcs.imp zck.imp zc5.imp zci.imp zdg.imp zdi.imp zcc.imp zc3.imp zh1 zhu zid zqs
theorem znb:zd5.Spec (AC P) N:=zd5.spec zd5.imp zki zhs zf1 zfe zil
theorem zhb:zdw.Spec (AC P) N:=zdw.spec zdw.imp
theorem zl0:zd1.Spec (AC P) N:=zd1.spec zd1.imp zhb
theorem zgr:zbl.Spec (AC P) N:=zbl.spec zbl.imp
theorem zj1:zc9.Spec (AC P) N:=zc9.spec zc9.imp zki zhs zf1 zgr zfe
theorem zoj:zej.Spec (AC P) N:=zej.spec zej.imp
theorem zhh:z7.Spec (AC P) N:=z7.spec z7.imp zbg.imp zoj
theorem zjt:zb6.Spec (AC P) N:=zb6.spec zb6.imp
theorem zi8:zl.Spec (AC P) N:=zl.spec zl.imp zjt
theorem zpe:zey.Spec (AC P) N:=zey.spec zey.imp zi8 zf1 zgr zfe
theorem zh2:z8.Spec (AC P) N:=z8.spec z8.imp
theorem zhr:zy.Spec (AC P) N:=zy.spec zy.imp
theorem zoi:zei.Spec (AC P) N:=zei.spec zei.imp
theorem zoh:zeh.Spec (AC P) N:=zeh.spec zeh.imp
theorem zpv:zo.Spec (AC P) N:=zo.spec zo.imp zhh zj1 zpe zh2 zhr zoi zoh
theorem zjd:zb1.Spec (AC P) N:=zb1.spec zb1.imp
theorem zim:zbm.Spec (AC P) N:=zbm.spec zbm.imp zjd
theorem zic:zbn.Spec (AC P) N:=zbn.spec zbn.imp
theorem zqr:zcf.Spec (AC P) N:=zcf.spec zcf.imp zim zic zfe
theorem zpu:zez.Spec (AC P) N:=zez.spec zez.imp zqq znb zl0 zj1 zhb zpv zqr
theorem zps:zb3.Spec (AC P) N:=zb3.spec zb3.imp
theorem zpt:zdk.Spec (AC P) N:=zdk.spec zdk.imp zps
theorem zm8:zgw.Spec (AC P) N:=zgw.spec zgw.imp
theorem ziy:zem.Spec (AC P) N:=zem.spec zem.imp zm8
theorem zix:zel.Spec (AC P) N:=zel.spec zel.imp zm8
theorem zod:zd9.Spec (AC P) N:=zd9.spec zd9.imp zix
theorem zhl:zec.Spec (AC P) N:=zec.spec zec.imp
theorem zkg:zd3.Spec (AC P) N:=zd3.spec zd3.imp zhl
theorem zpc:zew.Spec (AC P) N:=zew.spec zew.imp zod zkg
theorem zoe:zcq.Spec (AC P) N:=zcq.spec zcq.imp ziy zpc
theorem zoa:zd7.Spec (AC P) N:=zd7.spec zd7.imp
theorem zkz:zes.Spec (AC P) N:=zes.spec zes.imp zoa zhb
theorem zof:zdx.Spec (AC P) N:=zdx.spec zdx.imp zix
theorem zkh:zdt.Spec (AC P) N:=zdt.spec zdt.imp zhl
theorem zpd:zex.Spec (AC P) N:=zex.spec zex.imp zkz zof zkh
theorem zog:zc6.Spec (AC P) N:=zc6.spec zc6.imp zpd ziy zkz
theorem zob:zeg.Spec (AC P) N:=zeg.spec zeg.imp zix
theorem zkf:zd8.Spec (AC P) N:=zd8.spec zd8.imp zhl
theorem zpb:zev.Spec (AC P) N:=zev.spec zev.imp zob zkf
theorem zoc:zcu.Spec (AC P) N:=zcu.spec zcu.imp zpb ziy
theorem zka:zdz.Spec (AC P) N:=zdz.spec zdz.imp
theorem zje:zdv.Spec (AC P) N:=zdv.spec zdv.imp zka
theorem zkb:ze0.Spec (AC P) N:=ze0.spec ze0.imp
theorem zny:zbp.Spec (AC P) N:=zbp.spec zbp.imp zkb
theorem zlg:zbz.Spec (AC P) N:=zbz.spec zbz.imp zje zny zka
theorem zsv:zfb.Spec (AC P) N:=zfb.spec zfb.imp zje zkb zlg
theorem zqp:zc0.Spec (AC P) N:=zc0.spec zc0.imp zje zkb zlg zka
theorem zme:PutSpec (AC P) 3 (N 405):=zeb.spec zeb.imp
theorem zn0:zek (AC P) (N 80):=zf4.nil0 zf4.imp0
theorem zo8:zek (AC P) (N 81):=zgm.nil0 zgm.imp0
theorem zn7:zek (AC P) (N 82):=zga.nil0 zga.imp0
theorem zn2:zms (AC P) 1 (N 83):=zfl.spec zfl.imp zhl
theorem zn8:zek (AC P) (N 90):=zgb.nil0 zgb.imp0
theorem zo9:zek (AC P) (N 92):=zgn.nil0 zgn.imp0
theorem zn3:zek (AC P) (N 93):=zf6.nil0 zf6.imp0
theorem zm9:zek (AC P) (N 94):=zfu.nil0 zfu.imp0
theorem zo7:zek (AC P) (N 95):=zgl.nil0 zgl.imp0
theorem zn1:zek (AC P) (N 96):=zf5.nil0 zf5.imp0
theorem zn9:zek (AC P) (N 97):=zgc.nil0 zgc.imp0
theorem zmz:zek (AC P) (N 98):=zfp.nil0 zfp.imp0
theorem zn6:zek (AC P) (N 99):=zf9.nil0 zf9.imp0
theorem zmy:zek (AC P) (N 100):=zfo.nil0 zfo.imp0
theorem zn5:zek (AC P) (N 101):=zf8.nil0 zf8.imp0
theorem zn4:zek (AC P) (N 102):=zf7.nil0 zf7.imp0
theorem zpa:ApartK (AC P) bagTx (N 62):=ze3.spl ze3.imp zn0 zo8 zn7 zn2 zfy.imp zbb.imp zb5.imp zbq.imp zb4.imp zbr.imp zn8 zbs.imp zo9 zn3 zm9 zo7 zn1 zn9 zmz zn6 zmy zn5 zn4
theorem zna:zms (AC P) 1 (N 396):=zdo.spec zdo.imp zme zpa
theorem znz:zd6.Spec (AC P) N:=zd6.spec zd6.imp zpu zpt zoe zkg znb zj1 zog zkh zoc zkf zsv zl0 zqp zhb zna
theorem groupOf_AC (H:za) (vs:List AVal) (h:AbsArgs H [.sl 72 4 tyItem,.sl 16 1 .s] vs):AC P 3 vs H fun v _=>v= .bool true:=by
 obtain ⟨x,r,rfl,hx,y,r1,rfl,hy,rfl⟩:=h
 obtain ⟨L,h1,h2,h3⟩:=dItems hx
 obtain ⟨M,m1,m2,m3⟩:=dTextsL hy
 exact znz x y L M [] H _ h1 h2 h3 m1 (by omega) m3 rfl
theorem ztr (os:Os) (started:os.Started) (H:Type) (enc:TypeId×Value->H):
  ReturnsInHanded {} Tryz.checked os 3 .any (Rows.groupOfSpec.pre6 enc Tryz.prog Tryz.f3 Rows.groupOfRow.domain false) (Rows.groupOfSpec.post enc Tryz.prog Tryz.f3 false true false false):=by
 refine returnsInHanded_of_change_sized (C:=Tryz.checked) own started (by kernel_rfl) Tryz.func3
  (ChangeSpec.witness6 (enc:=enc) (C:=Tryz.checked) false ⟨#[], #[.slice none 0 0,.slice none 0 0],[]⟩ 8 (by kernel_rfl) (by kernel_rfl) (by kernel_rfl) (by kernel_rfl)) ?_
 intro W base args ds gs before hval hW _ hwt _
 exact law_contract (n:=6) (tb:=4) laid (by kernel_rfl) rfl (fun H ds h=>by
  have h:ds.length=2:=h
  match ds,h with
  | [a,b],_=>rfl) (by kernel_rfl) (by kernel_rfl) (zoz Tryz.func3 (by kernel_rfl) (by kernel_rfl)) groupOf_AC hval hW hwt
theorem groupOf:Rows.GroupOfSaid:=
 OpenClaim.holds_of_wide 3 Tryz.f3 rfl rfl rfl rfl rfl rfl rfl ⟨rfl,rfl,rfl,rfl,rfl⟩ rfl rfl rfl rfl rfl (by kernel_rfl) Tryz.func3 (by kernel_rfl)
  (of_decide_eq_true (by kernel_rfl)) (by unfold Func.isWrapper;first|(rw [if_pos (by decide +kernel)];kernel_rfl)|(rw [if_neg (by decide +kernel)];exact ⟨rfl,rfl⟩))
  (fun os started H enc _=>ztr os started H enc)
#print axioms groupOf
end Go.Proofs.YtlcijlhcilgknaaGreat
