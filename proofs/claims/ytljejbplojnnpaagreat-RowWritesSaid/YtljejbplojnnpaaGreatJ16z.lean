/- What is proved: the statement, joined. No conditions. -/
import Derived.Test.YtljejbplojnnpaaGreatRows
import Derived.Test.YtljejbplojnnpaaGreatQ6
import Derived.Test.YtljejbplojnnpaaGreatQ7
import Derived.Test.YtljejbplojnnpaaGreatQ9
import Derived.WalkKit
import Derived.ProofKit
import Derived.OpenShut
set_option linter.unusedVariables false
set_option linter.unusedSimpArgs false
set_option maxRecDepth 100000
namespace Go.Proofs.YtljejbplojnnpaaGreat
open Go.Ab Go.Ab.S16z
open Go.ChangeShapes Go.WideShapes Go.ChangeAt Go.RowKit
theorem own : ownKnob Tryz.prog.godebug = none := by kernel_rfl
theorem laid : laidOutB Tryz.prog = true := by kernel_rfl
theorem zqh : zd4.Spec (AC P) N := zd4.spec zd4.imp
theorem zfz : zb3.Spec (AC P) N := zb3.spec zb3.imp
theorem zh5 : zu.Spec (AC P) N := zu.spec zu.imp
theorem zhf : zp.Spec (AC P) N := zp.spec zp.imp zh5
theorem zsm : zdu.Spec (AC P) N := zdu.spec zdu.imp zfz zhf
theorem zt1 : zde.Spec (AC P) N := zde.spec zde.imp zsm
theorem zo4 : zdf.Spec (AC P) N := zdf.spec zdf.imp
theorem zls : zew.Spec (AC P) N := zew.spec zew.imp zfz zo4
theorem zre : zeg.Spec (AC P) N := zeg.spec zeg.imp zfz
theorem zsl : zbo.Spec (AC P) N := zbo.spec zbo.imp zt1 zls zre
theorem zk1 : zce.Spec (AC P) N := zce.spec zce.imp
theorem zjf : zbh.Spec (AC P) N := zbh.spec zbh.imp
theorem ziu : zh.Spec (AC P) N := zh.spec zh.imp zjf
theorem zjt : ze1.Spec (AC P) N := ze1.spec ze1.imp ziu
theorem zso : zed.Spec (AC P) N := zed.spec zed.imp zjt
theorem zt2 : zf9.Spec (AC P) N := zf9.spec zf9.imp
theorem zmh : ze4.Spec (AC P) N := ze4.spec ze4.imp zfz zt2
theorem zkp : zq.Spec (AC P) N := zq.spec zq.imp zsl zk1 zso zmh zjt
theorem zoc : zdl.Spec (AC P) N := zdl.spec zdl.imp zif.imp
theorem zfl : zn.Spec (AC P) N := zn.spec zn.imp
theorem zmi : zfn.Spec (AC P) N := zfn.spec zfn.imp zfz
theorem zgw : zby.Spec (AC P) N := zby.spec zby.imp zmi
theorem zl1 : zr.Spec (AC P) N := zr.spec zr.imp zfl zgw
theorem zme : zch.Spec (AC P) N := zch.spec zch.imp zfl zgw
theorem zl0 : zb7.Spec (AC P) N := zb7.spec zb7.imp zfl zgw
theorem zh7 : zdx.Spec (AC P) N := zdx.spec zdx.imp
theorem zqa : zd0.Spec (AC P) N := zd0.spec zd0.imp zh7
theorem zfo : zb.Spec (AC P) N := zb.spec zb.imp zqa
theorem zsn : zx.Spec (AC P) N := zx.spec zx.imp zoc zfl zl1 zme zl0 zkp zfo
theorem zk0 : zbp.Spec (AC P) N := zbp.spec zbp.imp zls zfz
theorem zty : zey.Spec (AC P) N := zey.spec zey.imp
theorem ztz : zbx.Spec (AC P) N := zbx.spec zbx.imp zk0 zty zmh
theorem zom : zgd.Spec (AC P) N := zgd.spec zgd.imp zk1 zjt
theorem zi0 : zbe.Spec (AC P) N := zbe.spec zbe.imp
theorem zql : zeb.Spec (AC P) N := zeb.spec zeb.imp
theorem zrc : zbw.Spec (AC P) N := zbw.spec zbw.imp (AC_cmono P) ztz zom zi0 zo.imp zql
theorem zl6 : zcd.Spec (AC P) N := zcd.spec zcd.imp zh7
theorem zeo : zm.Spec (AC P) N := zm.spec zm.imp
theorem zh4 : zbs.Spec (AC P) N := zbs.spec zbs.imp zmi
theorem zlz : zb6.Spec (AC P) N := zb6.spec zb6.imp zeo zh4
theorem zkz : zbd.Spec (AC P) N := zbd.spec zbd.imp zeo zlz
theorem zly : zb5.Spec (AC P) N := zb5.spec zb5.imp zeo
theorem zky : zbc.Spec (AC P) N := zbc.spec zbc.imp zeo zly
theorem zt0 : zdr.Spec (AC P) N := zdr.spec zdr.imp zeo zh4 zkz zky zk0
theorem zo5 : zba.Spec (AC P) N := zba.spec zba.imp zom zl6 zh7 zt0
theorem zjw : zci.SpecL (AC P) N := zci.spl zci.imp
theorem znu : zcn.Spec (AC P) N := zcn.spec zcn.imp
theorem znt : zcl.Spec (AC P) N := zcl.spec zcl.imp
theorem zhs : zc5.Spec (AC P) N := zc5.spec zc5.imp znu znt
theorem znw : zbq.Spec (AC P) N := zbq.spec zbq.imp zhs
theorem zpi : zda.Spec (AC P) N := zda.spec zda.imp
theorem znv : zco.Spec (AC P) N := zco.spec zco.imp
theorem zi8 : zcm.Spec (AC P) N := zcm.spec zcm.imp znw zpi znv
theorem zqj : zdm.Spec (AC P) N := zdm.spec zdm.imp zqh zkp zsn zrc zo5 zjw zi8
theorem zqi : zb8.Spec (AC P) N := zb8.spec zb8.imp
theorem zg2 : ze7.Spec (AC P) N := ze7.spec ze7.imp
theorem zhr : zc4.Spec (AC P) N := zc4.spec zc4.imp zg2
theorem zhp : zc2.Spec (AC P) N := zc2.spec zc2.imp zg2
theorem zn4 : zcq.Spec (AC P) N := zcq.spec zcq.imp zhp
theorem zho : zc1.Spec (AC P) N := zc1.spec zc1.imp
theorem zn2 : zcp.Spec (AC P) N := zcp.spec zcp.imp zho
theorem zpm : zdj.Spec (AC P) N := zdj.spec zdj.imp zn4 zn2
theorem zn6 : zbg.Spec (AC P) N := zbg.spec zbg.imp zhr zpm
theorem zh6 : zdn.Spec (AC P) N := zdn.spec zdn.imp zg2
theorem zpl : zdb.Spec (AC P) N := zdb.spec zdb.imp zh6
theorem zhq : zc3.Spec (AC P) N := zc3.spec zc3.imp zg2
theorem zn5 : zcr.Spec (AC P) N := zcr.spec zcr.imp zhq
theorem zn3 : zcz.Spec (AC P) N := zcz.spec zcz.imp zn6 zpl zn5
theorem zn9 : zca.Spec (AC P) N := zca.spec zca.imp zhp
theorem zn7 : zb9.Spec (AC P) N := zb9.spec zb9.imp zho
theorem zpo : zdk.Spec (AC P) N := zdk.spec zdk.imp zhs zn9 zn7
theorem zob : zbl.Spec (AC P) N := zbl.spec zbl.imp zpo zhr zhs
theorem zpn : zcj.Spec (AC P) N := zcj.spec zcj.imp zh6
theorem zoa : zcb.Spec (AC P) N := zcb.spec zcb.imp zhq
theorem zn8 : zc0.Spec (AC P) N := zc0.spec zc0.imp zi8 zob zpn zoa
theorem znz : zcx.Spec (AC P) N := zcx.spec zcx.imp zhp
theorem znx : zcv.Spec (AC P) N := zcv.spec zcv.imp zho
theorem zpk : zdi.Spec (AC P) N := zdi.spec zdi.imp znz znx
theorem zn1 : zbi.Spec (AC P) N := zbi.spec zbi.imp zpk zhr
theorem zpj : zdh.Spec (AC P) N := zdh.spec zdh.imp zh6
theorem zn0 : zcy.Spec (AC P) N := zcy.spec zcy.imp zhq
theorem zny : zcw.Spec (AC P) N := zcw.spec zcw.imp zn1 zpj zn0
theorem ze3 : zbu.Spec (AC P) N := zbu.spec zbu.imp
theorem zo9 : zz.Spec (AC P) N := zz.spec zz.imp
theorem zsq : zdv.Spec (AC P) N := zdv.spec zdv.imp
theorem zqd : zbj.Spec (AC P) N := zbj.spec zbj.imp ze3
theorem zo8 : zbf.Spec (AC P) N := zbf.spec zbf.imp ze3
theorem zqe : zd1.Spec (AC P) N := zd1.spec zd1.imp zo9 zsq ze3 zqd zo8
theorem zrd : zef.Spec (AC P) N := zef.spec zef.imp ze3 zqe
theorem zqg : zd3.Spec (AC P) N := zd3.spec zd3.imp ze3
theorem zqf : zd2.Spec (AC P) N := zd2.spec zd2.imp ze3
theorem zqc : z9.Spec (AC P) N := z9.spec z9.imp zrd zqg zqf
theorem zgm : zbr.Spec (AC P) N := zbr.spec zbr.imp
theorem zi1 : zen.Spec (AC P) N := zen.spec zen.imp ze3
theorem zo7 : zy.Spec (AC P) N := zy.spec zy.imp zgm zi1
theorem zju : zbz.Spec (AC P) N := zbz.spec zbz.imp
theorem zqb : zbt.Spec (AC P) N := zbt.spec zbt.imp zgm zi1 zju
theorem zo6 : zdg.Spec (AC P) N := zdg.spec zdg.imp zgm zi1 zju
theorem zsp : zbm.Spec (AC P) N := zbm.spec zbm.imp zqc zgm zo7 zqb zo6
theorem zkg : zdw.Spec (AC P) N := zdw.spec zdw.imp zjw
theorem zph : zb2.Spec (AC P) N := zb2.spec zb2.imp zkg
theorem zle : PutSpec (AC P) 4 (N 63) := zcs.spec zcs.imp
theorem zmg : zuu rowK zr5 (AC P) (N 315) := zdo.spec zdo.imp zle
theorem zng : zbv (AC P) (N 80) := ze8.nil0 ze8.imp0
theorem zpd : zbv (AC P) (N 81) := zfv.nil0 zfv.imp0
theorem znp : zbv (AC P) (N 82) := zfh.nil0 zfh.imp0
theorem znj : zbv (AC P) (N 83) := zfb.nil0 zfb.imp0
theorem zjv : zc9.Spec (AC P) N := zc9.spec zc9.imp zg2
theorem zpe : ziy (AC P) 1 140737488351232 (N 84) := zei.spl zei.imp zjv
theorem zl3 : zbv (AC P) (N 85) := zep.nil0 zep.imp0
theorem zpc : zbv (AC P) (N 86) := zfu.nil0 zfu.imp0
theorem znh : zbv (AC P) (N 87) := ze9.nil0 ze9.imp0
theorem zpa : zbv (AC P) (N 88) := zft.nil0 zft.imp0
theorem znn : zbv (AC P) (N 89) := zff.nil0 zff.imp0
theorem znr : zbv (AC P) (N 90) := zfj.nil0 zfj.imp0
theorem znq : zbv (AC P) (N 91) := zfi.nil0 zfi.imp0
theorem zpf : zbv (AC P) (N 92) := zfw.nil0 zfw.imp0
theorem znk : zbv (AC P) (N 93) := zfc.nil0 zfc.imp0
theorem zmf : zbv (AC P) (N 94) := zez.nil0 zez.imp0
theorem zqk : zd5.Spec (AC P) N := zd5.spec zd5.imp zjv
theorem zpb : ziy (AC P) 2 100000000 (N 95) := zt.spec zt.imp zqk zkg
theorem zni : zbv (AC P) (N 96) := zfa.nil0 zfa.imp0
theorem zns : zbv (AC P) (N 97) := zfk.nil0 zfk.imp0
theorem zl5 : zbv (AC P) (N 98) := zer.nil0 zer.imp0
theorem zno : zbv (AC P) (N 99) := zfg.nil0 zfg.imp0
theorem zl4 : zbv (AC P) (N 100) := zeq.nil0 zeq.imp0
theorem znm : zbv (AC P) (N 101) := zfe.nil0 zfe.imp0
theorem znl : zbv (AC P) (N 102) := zfd.nil0 zfd.imp0
theorem zpg : ApartK (AC P) bagR (N 62) := zdt.spr zdt.imp zng zpd znp znj zpe zl3 zpc znh zpa znn znr znq zpf znk zmf zpb zni zns zl5 zno zl4 znm znl
theorem zpp : ApartD rowK (AC P) (N 307) := zcc.spr zcc.imp zb1.imp zmg zpg
theorem zl2 : zcg.Spec (AC P) N := zcg.spec zcg.imp zqj zqi zn3 zkp zn8 zny zsp zph zpp
theorem rowWrites_AC (H : za) (vs : List AVal) (h : AbsArgs H [.st tySta] vs) : AC P 3 vs H fun v _ => v = .bool true := by
 obtain ⟨a, r, rfl, ⟨cs, rfl, ha⟩, rfl⟩ := h
 obtain ⟨s, x, y, z, rfl, hs, ho⟩ := dState ha
 exact zl2 s x y z H _ hs rfl
theorem zsj (os : Os) (started : os.Started) (H : Type) (enc : TypeId × Value → H) :
  ReturnsInHanded {} Tryz.checked os 3 .any (Rows.rowWritesSpec.pre6 enc Tryz.prog Tryz.f3 Rows.rowWritesRow.domain false) (Rows.rowWritesSpec.post enc Tryz.prog Tryz.f3 false true false false) := by
 refine returnsInHanded_of_change_sized (C := Tryz.checked) own started (by kernel_rfl) Tryz.func3
  (ChangeSpec.witness6 (enc := enc) (C := Tryz.checked) false ⟨#[], #[.agg #[.int .i64 0, .int .i64 0, .int .i64 0, .slice none 0 0, .slice none 0 0, .slice none 0 0]], []⟩ 8 (by kernel_rfl) (by kernel_rfl) (by kernel_rfl) (by kernel_rfl)) ?_
 intro W base args ds gs before hval hW _ hwt _
 exact law_contract (n := 6) (tb := 4) laid (by kernel_rfl) rfl (fun H ds h => by
  have h : ds.length = 1 := h
  match ds, h with
  | [a], _ => rfl) (by kernel_rfl) (by kernel_rfl) (zot Tryz.func3 (by kernel_rfl) (by kernel_rfl)) rowWrites_AC hval hW hwt
theorem rowWrites : Rows.RowWritesSaid :=
 OpenClaim.holds_of_wide 3 Tryz.f3 rfl rfl rfl rfl rfl rfl rfl ⟨rfl, rfl, rfl, rfl, rfl⟩ rfl rfl rfl rfl rfl (by kernel_rfl) Tryz.func3 (by kernel_rfl)
  (of_decide_eq_true (by kernel_rfl)) (by unfold Func.isWrapper; first | (rw [if_pos (by decide +kernel)]; kernel_rfl) | (rw [if_neg (by decide +kernel)]; exact ⟨rfl, rfl⟩))
  (fun os started H enc _ => zsj os started H enc)
#print axioms rowWrites
end Go.Proofs.YtljejbplojnnpaaGreat
