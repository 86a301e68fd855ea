/- What is proved: the statement, joined. No conditions. -/
import Derived.Test.YtlcijlhcilgknaaGreatRows
import Derived.Test.YtlcijlhcilgknaaGreatQ2
import Derived.Test.YtlcijlhcilgknaaGreatQ7
import Derived.Test.YtlcijlhcilgknaaGreatQ10
import Derived.WalkKit
import Derived.ProofKit
import Derived.OpenShut
set_option linter.unusedVariables false
set_option linter.unusedSimpArgs false
set_option maxRecDepth 100000
namespace Go.Proofs.YtlcijlhcilgknaaGreat
open Go.Ab Go.Ab.S12z
open Go.ChangeShapes Go.WideShapes Go.ChangeAt Go.RowKit
theorem own:ownKnob Tryz.prog.godebug=none:=by kernel_rfl
theorem zpc:zge.Spec (AC P) N:=zge.spec zge.imp
theorem zjj:zc6.Spec (AC P) N:=zc6.spec zc6.imp
theorem zqq:zd8.Spec (AC P) N:=zd8.spec zd8.imp zjj
theorem znc:zz.Spec (AC P) N:=zz.spec zz.imp zqq
theorem zjz:NextI (AC P) (N 298):=zdm.spec zdm.imp
theorem zj9:LenI (AC P) (N 287):=zfx.spec zfx.imp zcf.imp
theorem zjm:PowI (AC P) (N 299):=zd5.spec zd5.imp zj9
theorem zlm:zei.Spec (AC P) N:=zei.spec zei.imp
theorem zqr:zen.Spec (AC P) N:=zen.spec zen.imp zlm
theorem zhg:zb7.Spec (AC P) N:=zb7.spec zb7.imp zcm.imp zdd.imp zdp.imp zb9.imp zcy.imp zc4.imp zcu.imp zdk.imp zcs.imp zco.imp zdy.imp zdw.imp zdi.imp zjz zjm zj9 zqr
theorem zgp:zbv.Spec (AC P) N:=zbv.spec zbv.imp
theorem zo1:zda.Spec (AC P) N:=zda.spec zda.imp zlm
theorem zky:zb1.Spec (AC P) N:=zb1.spec zb1.imp zo1
theorem zvb:zg0.Spec (AC P) N:=zg0.spec zg0.imp zky
theorem zkm:zb5.Spec (AC P) N:=zb5.spec zb5.imp zcn.imp zde.imp zdq.imp zca.imp zcz.imp zc5.imp zcv.imp zdl.imp zct.imp zdx.imp zdz.imp zcp.imp zdj.imp zjz zjm zj9 zvb
theorem znz:zer.Spec (AC P) N:=zer.spec zer.imp znc zjj zhg zgp zkm
theorem zh1:zef.Spec (AC P) N:=zef.spec zef.imp
theorem zpb:zes.Spec (AC P) N:=zes.spec zes.imp zh1
theorem zia:zbx.Spec (AC P) N:=zbx.spec zbx.imp
theorem zmf:zdo.Spec (AC P) N:=zdo.spec zdo.imp znc zjj zhg zia zgp
theorem zsn:zfr.Spec (AC P) N:=zfr.spec zfr.imp
theorem ziz:zbd.Spec (AC P) N:=zbd.spec zbd.imp zbq.imp zsn
theorem zl0:zch.Spec (AC P) N:=zch.spec zch.imp
theorem zlb:zp.Spec (AC P) N:=zp.spec zp.imp zl0
theorem ztm:zga.Spec (AC P) N:=zga.spec zga.imp zlb zhg zia zgp
theorem zj0:zbe.Spec (AC P) N:=zbe.spec zbe.imp
theorem zji:z9.Spec (AC P) N:=z9.spec z9.imp
theorem zsm:zfq.Spec (AC P) N:=zfq.spec zfq.imp
theorem zsl:zfp.Spec (AC P) N:=zfp.spec zfp.imp
theorem zol:zt.Spec (AC P) N:=zt.spec zt.imp ziz zmf ztm zj0 zji zsm zsl
theorem zli:zce.Spec (AC P) N:=zce.spec zce.imp
theorem zkn:zby.Spec (AC P) N:=zby.spec zby.imp zli
theorem zj8:zb0.Spec (AC P) N:=zb0.spec zb0.imp
theorem zpd:zcl.Spec (AC P) N:=zcl.spec zcl.imp zkn zj8 zgp
theorem zlk:ze7.Spec (AC P) N:=ze7.spec ze7.imp zpc znz zpb zmf zh1 zol zpd
theorem zt7:zcg.Spec (AC P) N:=zcg.spec zcg.imp
theorem zlj:zdu.Spec (AC P) N:=zdu.spec zdu.imp zt7
theorem zj1:zhl.Spec (AC P) N:=zhl.spec zhl.imp
theorem zi7:zff.Spec (AC P) N:=zff.spec zff.imp zj1
theorem zi5:zfd.Spec (AC P) N:=zfd.spec zfd.imp zj1
theorem zsg:ze3.Spec (AC P) N:=ze3.spec ze3.imp zi5
theorem zi4:zfc.Spec (AC P) N:=zfc.spec zfc.imp
theorem zkc:zeq.Spec (AC P) N:=zeq.spec zeq.imp zi4
theorem ztj:zf8.Spec (AC P) N:=zf8.spec zf8.imp zsg zkc
theorem zna:zc0.Spec (AC P) N:=zc0.spec zc0.imp zi7 ztj
theorem zr9:ze1.Spec (AC P) N:=ze1.spec ze1.imp
theorem zi8:zfg.Spec (AC P) N:=zfg.spec zfg.imp zr9 zh1
theorem zsj:zel.Spec (AC P) N:=zel.spec zel.imp zi5
theorem zkd:zec.Spec (AC P) N:=zec.spec zec.imp zi4
theorem ztl:zf9.Spec (AC P) N:=zf9.spec zf9.imp zi8 zsj zkd
theorem znb:zdg.Spec (AC P) N:=zdg.spec zdg.imp ztl zi7 zi8
theorem zsd:zfl.Spec (AC P) N:=zfl.spec zfl.imp zi5
theorem zkb:zew.Spec (AC P) N:=zew.spec zew.imp zi4
theorem zth:zf7.Spec (AC P) N:=zf7.spec zf7.imp zsd zkb
theorem zm9:zc3.Spec (AC P) N:=zc3.spec zc3.imp zth zi7
theorem zks:zej.Spec (AC P) N:=zej.spec zej.imp
theorem zjn:zeg.Spec (AC P) N:=zeg.spec zeg.imp zks
theorem zjc:zf1.Spec (AC P) N:=zf1.spec zf1.imp
theorem zr0:zb2.Spec (AC P) N:=zb2.spec zb2.imp zjc
theorem zok:zcb.Spec (AC P) N:=zcb.spec zcb.imp zjn zr0 zks
theorem zxm:zgn.Spec (AC P) N:=zgn.spec zgn.imp zjn zjc zok
theorem zpa:zdb.Spec (AC P) N:=zdb.spec zdb.imp zjn zjc zok zks
theorem zll:zkh (AC P) 3 (N 405):=ze8.spec ze8.imp
theorem zm0:zdn (AC P) (N 80):=zhm.zqt zhm.zqw
theorem znx:zdn (AC P) (N 81):=zh6.zqt zh6.zqw
theorem zm7:zdn (AC P) (N 82):=zhs.zqt zhs.zqw
theorem zm2:zhd (AC P) 1 (N 83):=zgx.spec zgx.imp zi4
theorem zr7:zdn (AC P) (N 90):=zbk.zqt zbk.zqw
theorem zny:zdn (AC P) (N 92):=zh7.zqt zh7.zqw
theorem zm3:zdn (AC P) (N 93):=zho.zqt zho.zqw
theorem zq5:zdn (AC P) (N 94):=zbc.zqt zbc.zqw
theorem znw:zdn (AC P) (N 95):=zh5.zqt zh5.zqw
theorem zm1:zdn (AC P) (N 96):=zhn.zqt zhn.zqw
theorem zm8:zdn (AC P) (N 97):=zht.zqt zht.zqw
theorem zl4:zdn (AC P) (N 98):=zg3.zqt zg3.zqw
theorem zm6:zdn (AC P) (N 99):=zhr.zqt zhr.zqw
theorem zl3:zdn (AC P) (N 100):=zg2.zqt zg2.zqw
theorem zm5:zdn (AC P) (N 101):=zhq.zqt zhq.zqw
theorem zm4:zdn (AC P) (N 102):=zhp.zqt zhp.zqw
theorem zte:zuu (AC P) bagTx (N 62):=ze0.spl ze0.imp zm0 znx zm7 zm2 zeu.imp zbb.imp zb8.imp zbl.imp zbs.imp zbt.imp zr7 zbu.imp zny zm3 zq5 znw zm1 zm8 zl4 zm6 zl3 zm5 zm4
theorem zmp:zhd (AC P) 1 (N 396):=zd7.spec zd7.imp zll zte
theorem zr1:zek.Spec (AC P) N:=zek.spec zek.imp zlk zlj zna zkc znz zmf znb zkd zm9 zkb zxm zpb zpa zh1 zmp
theorem zva:zdc.Spec (AC P) N:=zdc.spec zdc.imp zlj
theorem zjo:zf4.Spec (AC P) N:=zf4.spec zf4.imp zj1
theorem zti:zfz.Spec (AC P) N:=zfz.spec zfz.imp zjo
theorem zi6:zfe.Spec (AC P) N:=zfe.spec zfe.imp zj1
theorem zsh:ze4.Spec (AC P) N:=ze4.spec ze4.imp zi6
theorem zsf:zfn.Spec (AC P) N:=zfn.spec zfn.imp zna zti zsh
theorem zsb:zd4.Spec (AC P) N:=zd4.spec zd4.imp zi8
theorem ztf:zfy.Spec (AC P) N:=zfy.spec zfy.imp
theorem zsa:ze2.Spec (AC P) N:=ze2.spec ze2.imp
theorem zka:zev.Spec (AC P) N:=zev.spec zev.imp zsb ztf zsa
theorem ztk:zez.Spec (AC P) N:=zez.spec zez.imp zjo
theorem zsk:zem.Spec (AC P) N:=zem.spec zem.imp zi6
theorem zsi:zfo.Spec (AC P) N:=zfo.spec zfo.imp zka znb ztk zsk
theorem ztg:zf6.Spec (AC P) N:=zf6.spec zf6.imp zjo
theorem zse:zfm.Spec (AC P) N:=zfm.spec zfm.imp zi6
theorem zsc:zfk.Spec (AC P) N:=zfk.spec zfk.imp zm9 ztg zse
theorem zt6:zx.Spec (AC P) N:=zx.spec zx.imp zjn zjc zpa zks
theorem zu9:zc2.Spec (AC P) N:=zc2.spec zc2.imp zjc
theorem zpw:zkh (AC P) 9 (N 481):=ze9.spec ze9.imp
theorem zq6:OneG zd3 zue (AC P) (N 480):=zfv.spg zfv.imp zpw zll
theorem zqo:PutG zd3 zue 10 (AC P) (N 475):=zdt.spg zdt.imp zq6
theorem zqn:zkh (AC P) 6 (N 130):=zfu.spec zfu.imp
theorem zpx:zkh (AC P) 11 (N 207):=zfa.spec zfa.imp
theorem zqp:OneG zlf zoy (AC P) (N 473):=zfb.spg zfb.imp zqo zqn zpx
theorem zpv:PutG zlf zoy 14 (AC P) (N 470):=zdf.spg zdf.imp zqp
theorem zr8:zdn (AC P) (N 84):=zeu.zqt zeu.zqw
theorem zqm:zdn (AC P) (N 85):=zbb.zqt zbb.zqw
theorem ztc:zhd (AC P) 6 (N 86):=zb8.spec zb8.imp zjo
theorem zr3:zdn (AC P) (N 87):=zbl.zqt zbl.zqw
theorem ztb:zdn (AC P) (N 88):=zbs.zqt zbs.zqw
theorem zr4:zhd (AC P) 2 (N 89):=zbt.spec zbt.imp zi5
theorem zr6:zpr (AC P) 4 100000000 (N 90):=zbk.spec zbk.imp zi7 zi8
theorem zr5:zhd (AC P) 8 (N 91):=zbu.spec zbu.imp zi6
theorem zr2:zfj.Spec (AC P) N:=zfj.spec zfj.imp zj1
theorem zq4:zhd (AC P) 6 (N 94):=zbc.spec zbc.imp zr2 zka
theorem ztd:zuu (AC P) zyc (N 62):=ze0.sps ze0.imp zm0 znx zm7 zm2 zr8 zqm ztc zr3 ztb zr4 zr6 zr5 zny zm3 zq4 znw zm1 zm8 zl4 zm6 zl3 zm5 zm4
theorem zq7:ApartG zlf zoy 14 zyc (AC P) (N 453):=zd1.spg zd1.imp zpv ztd
theorem zpu:zeb.Spec (AC P) N:=zeb.spec zeb.imp zlk zlj zva zsf zkc zol zpd zsi zkd zsc zkb zt6 zh1 zu9 zka zmp zq7
theorem zo0:zj.Spec (AC P) N:=zj.spec zj.imp zlk znz zr1 zpc zpu
theorem zx2(H:zb):AC P 5 [] H λv _=>v= .bool true:=zo0 H _ rfl
theorem ztq(os:Os)(started:os.Started)(H:Type)(enc:TypeId×Value->H):
  ReturnsInHanded {} Tryz.checked os 5 .any (Rows.groupNumbersSpec.pre6 enc Tryz.prog Tryz.f5 Rows.groupNumbersRow.domain false) (Rows.groupNumbersSpec.post enc Tryz.prog Tryz.f5 false true false false):=by
 refine returnsInHanded_of_change_sized (C:=Tryz.checked) own started (by kernel_rfl) Tryz.func5
  (ChangeSpec.witness6 (enc:=enc) (C:=Tryz.checked) false ⟨#[], #[],[]⟩ 8 (by kernel_rfl) (by kernel_rfl) (by kernel_rfl) (by kernel_rfl)) ?_
 intro W base args ds gs before hval hW _ hwt _;exact law_closed (tb:=4) (by kernel_rfl) rfl (λH=>rfl) (by kernel_rfl) (by kernel_rfl) (zs1 Tryz.func5 (by kernel_rfl) (by kernel_rfl)) zx2 hW
theorem groupNumbers:Rows.GroupNumbersSaid:=
 OpenClaim.holds_of_wide 5 Tryz.f5 rfl rfl rfl rfl rfl rfl rfl ⟨rfl,rfl,rfl,rfl,rfl⟩ rfl rfl rfl rfl rfl (by kernel_rfl) Tryz.func5 (by kernel_rfl)
  (of_decide_eq_true (by kernel_rfl)) (by unfold Func.isWrapper;first|(rw[if_pos (by decide +kernel)];kernel_rfl)|(rw[if_neg (by decide +kernel)];exact⟨rfl,rfl⟩))
  (λos started H enc _=>ztq os started H enc)
#print axioms groupNumbers
end Go.Proofs.YtlcijlhcilgknaaGreat
