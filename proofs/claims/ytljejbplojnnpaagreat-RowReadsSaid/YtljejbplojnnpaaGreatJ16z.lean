/- What is proved: the statement, joined. No conditions. -/
import Derived.Test.YtljejbplojnnpaaGreatRows
import Derived.Test.YtljejbplojnnpaaGreatQ6
import Derived.Test.YtljejbplojnnpaaGreatQ7
import Derived.Test.YtljejbplojnnpaaGreatQ9
import Derived.WalkKit
import Derived.ProofKit
import Derived.OpenShut
set_option linter.unusedVariables false
set_option linter.unusedSimpArgs false
set_option maxRecDepth 100000
namespace Go.Proofs.YtljejbplojnnpaaGreat
open Go.Ab Go.Ab.S16z
open Go.ChangeShapes Go.WideShapes Go.ChangeAt Go.RowKit
theorem own : ownKnob Tryz.prog.godebug = none := by kernel_rfl
theorem laid : laidOutB Tryz.prog = true := by kernel_rfl
theorem zq0 : zd9.Spec (AC P) N := zd9.spec zd9.imp
theorem zf9 : zcg.Spec (AC P) N := zcg.spec zcg.imp
theorem zig : zbc.Spec (AC P) N := zbc.spec zbc.imp
theorem zhu : zu.Spec (AC P) N := zu.spec zu.imp zig
theorem zs9 : zdv.Spec (AC P) N := zdv.spec zdv.imp zf9 zhu
theorem zup : zdf.Spec (AC P) N := zdf.spec zdf.imp zs9
theorem zps : zdg.Spec (AC P) N := zdg.spec zdg.imp
theorem zmh : ze5.Spec (AC P) N := ze5.spec ze5.imp zf9 zps
theorem zr7 : zes.Spec (AC P) N := zes.spec zes.imp zf9
theorem zs8 : zb1.Spec (AC P) N := zb1.spec zb1.imp zup zmh zr7
theorem zli : zcm.Spec (AC P) N := zcm.spec zcm.imp
theorem zjr : zbr.Spec (AC P) N := zbr.spec zbr.imp
theorem zja : zh.Spec (AC P) N := zh.spec zh.imp zjr
theorem zj6 : zfb.Spec (AC P) N := zfb.spec zfb.imp zja
theorem zta : zep.Spec (AC P) N := zep.spec zep.imp zj6
theorem zuq : zgj.Spec (AC P) N := zgj.spec zgj.imp
theorem znf : zfe.Spec (AC P) N := zfe.spec zfe.imp zf9 zuq
theorem zo6 : z9.Spec (AC P) N := z9.spec z9.imp zs8 zli zta znf zj6
theorem zov : zdn.Spec (AC P) N := zdn.spec zdn.imp ziq.imp
theorem zfx : zn.Spec (AC P) N := zn.spec zn.imp
theorem zng : zfz.Spec (AC P) N := zfz.spec zfz.imp zf9
theorem zg9 : zcc.Spec (AC P) N := zcc.spec zcc.imp zng
theorem zmr : zba.Spec (AC P) N := zba.spec zba.imp zfx zg9
theorem zna : zco.Spec (AC P) N := zco.spec zco.imp zfx zg9
theorem zmq : zcj.Spec (AC P) N := zcj.spec zcj.imp zfx zg9
theorem zii : zdy.Spec (AC P) N := zdy.spec zdy.imp
theorem zqs : zd5.Spec (AC P) N := zd5.spec zd5.imp zii
theorem zf0 : zb.Spec (AC P) N := zb.spec zb.imp zqs
theorem zmg : zbd.Spec (AC P) N := zbd.spec zbd.imp zov zfx zmr zna zmq zo6 zf0
theorem zlh : zb3.Spec (AC P) N := zb3.spec zb3.imp zmh zf9
theorem zum : ze7.Spec (AC P) N := ze7.spec ze7.imp
theorem zun : zcb.Spec (AC P) N := zcb.spec zcb.imp zlh zum znf
theorem zo5 : zgq.Spec (AC P) N := zgq.spec zgq.imp zli zj6
theorem zje : zbp.Spec (AC P) N := zbp.spec zbp.imp
theorem zq7 : zei.Spec (AC P) N := zei.spec zei.imp
theorem zr4 : zca.Spec (AC P) N := zca.spec zca.imp (AC_cmono P) zun zo5 zje zt.imp zq7
theorem zmy : zcl.Spec (AC P) N := zcl.spec zcl.imp zii
theorem zez : zm.Spec (AC P) N := zm.spec zm.imp
theorem zif : zb8.Spec (AC P) N := zb8.spec zb8.imp zng
theorem zmp : zci.Spec (AC P) N := zci.spec zci.imp zez zif
theorem zlg : zbo.Spec (AC P) N := zbo.spec zbo.imp zez zmp
theorem zmo : zch.Spec (AC P) N := zch.spec zch.imp zez
theorem zlf : zbn.Spec (AC P) N := zbn.spec zbn.imp zez zmo
theorem zuo : zds.Spec (AC P) N := zds.spec zds.imp zez zif zlg zlf zlh
theorem zpt : zbl.Spec (AC P) N := zbl.spec zbl.imp zo5 zmy zii zuo
theorem zj9 : zcq.zoy (AC P) N := zcq.spl zcq.imp
theorem zos : zcv.Spec (AC P) N := zcv.spec zcv.imp
theorem zor : zcu.Spec (AC P) N := zcu.spec zcu.imp
theorem zj8 : zdd.Spec (AC P) N := zdd.spec zdd.imp zos zor
theorem zou : zb5.Spec (AC P) N := zb5.spec zb5.imp zj8
theorem zp8 : zdc.Spec (AC P) N := zdc.spec zdc.imp
theorem zot : zcw.Spec (AC P) N := zcw.spec zcw.imp
theorem zhr : zcp.Spec (AC P) N := zcp.spec zcp.imp zou zp8 zot
theorem zq1 : zdo.Spec (AC P) N := zdo.spec zdo.imp zq0 zo6 zmg zr4 zpt zj9 zhr
theorem zgr : zfh.Spec (AC P) N := zfh.spec zfh.imp
theorem zp1 : zdl.Spec (AC P) N := zdl.spec zdl.imp zgr
theorem zpz : zdj.Spec (AC P) N := zdj.spec zdj.imp zgr
theorem zpy : zdi.Spec (AC P) N := zdi.spec zdi.imp
theorem zq2 : zea.Spec (AC P) N := zea.spec zea.imp zgr
theorem zp0 : zdk.Spec (AC P) N := zdk.spec zdk.imp zgr
theorem zex : zb4.Spec (AC P) N := zb4.spec zb4.imp
theorem zpx : zbi.Spec (AC P) N := zbi.spec zbi.imp
theorem ztc : zdw.Spec (AC P) N := zdw.spec zdw.imp
theorem zqw : zbt.Spec (AC P) N := zbt.spec zbt.imp zex
theorem zpw : zbq.Spec (AC P) N := zbq.spec zbq.imp zex
theorem zqx : zd6.Spec (AC P) N := zd6.spec zd6.imp zpx ztc zex zqw zpw
theorem zr6 : zer.Spec (AC P) N := zer.spec zer.imp zex zqx
theorem zqz : zd8.Spec (AC P) N := zd8.spec zd8.imp zex
theorem zqy : zd7.Spec (AC P) N := zd7.spec zd7.imp zex
theorem zqv : zbk.Spec (AC P) N := zbk.spec zbk.imp zr6 zqz zqy
theorem zg0 : zb6.Spec (AC P) N := zb6.spec zb6.imp
theorem zjf : zey.Spec (AC P) N := zey.spec zey.imp zex
theorem zpv : zbh.Spec (AC P) N := zbh.spec zbh.imp zg0 zjf
theorem zj7 : zce.Spec (AC P) N := zce.spec zce.imp
theorem zqt : zb9.Spec (AC P) N := zb9.spec zb9.imp zg0 zjf zj7
theorem zpu : zdh.Spec (AC P) N := zdh.spec zdh.imp zg0 zjf zj7
theorem ztb : zbw.Spec (AC P) N := zbw.spec zbw.imp zqv zg0 zpv zqt zpu
theorem zku : zdx.Spec (AC P) N := zdx.spec zdx.imp zj9
theorem zod : zcs (AC P) (N 80) := zfk.nil0 zfk.imp0
theorem zp5 : zcs (AC P) (N 81) := zf6.nil0 zf6.imp0
theorem zom : zcs (AC P) (N 82) := zfr.nil0 zfr.imp0
theorem zg1 : zc2.Spec (AC P) N := zc2.spec zc2.imp zgr
theorem zms : zcs (AC P) (N 85) := ze0.nil0 ze0.imp0
theorem zoe : zcs (AC P) (N 87) := zfl.nil0 zfl.imp0
theorem zp2 : zcs (AC P) (N 88) := zf4.nil0 zf4.imp0
theorem zp6 : zcs (AC P) (N 92) := zf7.nil0 zf7.imp0
theorem zoh : zcs (AC P) (N 93) := zfn.nil0 zfn.imp0
theorem zih : zdp.Spec (AC P) N := zdp.spec zdp.imp zg1
theorem zof : zcs (AC P) (N 96) := zfm.nil0 zfm.imp0
theorem zop : zcs (AC P) (N 97) := zfs.nil0 zfs.imp0
theorem zmu : zcs (AC P) (N 98) := ze2.nil0 ze2.imp0
theorem zol : zcs (AC P) (N 99) := zfq.nil0 zfq.imp0
theorem zmt : zcs (AC P) (N 100) := ze1.nil0 ze1.imp0
theorem zoj : zcs (AC P) (N 101) := zfp.nil0 zfp.imp0
theorem zoi : zcs (AC P) (N 102) := zfo.nil0 zfo.imp0
theorem zr8 : zct.Spec (AC P) N := zct.spec zct.imp
theorem zqb : zcx.zoy (AC P) N := zcx.spl zcx.imp zg1
theorem zq5 : zec.Spec (AC P) N := zec.spec zec.imp zqb
theorem zq4 : zbv.SpecO (AC P) N := zbv.spo zbv.imp zih zq5
theorem zqd : zck.zoy (AC P) N := zck.spl zck.imp zg1
theorem zq6 : zed.Spec (AC P) N := zed.spec zed.imp zku zqd
theorem zqc : zb7.Spec (AC P) N := zb7.spec zb7.imp zq6 zih zku
theorem zqa : zc7.zoy (AC P) N := zc7.spl zc7.imp zg1
theorem zq3 : zeb.Spec (AC P) N := zeb.spec zeb.imp zqa
theorem zp9 : zbx.Spec (AC P) N := zbx.spec zbx.imp zq3 zih
theorem zkr : zo.Spec (AC P) N := zo.spec zo.imp
theorem ztd : zfc.Spec (AC P) N := zfc.spec zfc.imp zex
theorem zlj : zb0.Spec (AC P) N := zb0.spec zb0.imp ztd
theorem zr5 : zp.Spec (AC P) N := zp.spec zp.imp zkr zlj
theorem zqu : zbe.Spec (AC P) N := zbe.spec zbe.imp zr5 ztb
theorem zlz : zit (AC P) 9 (N 481) := zcz.spec zcz.imp
theorem zlx : zit (AC P) 3 (N 405) := zcy.spec zcy.imp
theorem znd : OneG ze3 zrf (AC P) (N 480) := zc9.spg zc9.imp zlz zlx
theorem zmw : PutG ze3 zrf 10 (AC P) (N 475) := zby.spg zby.imp znd
theorem zmv : zit (AC P) 6 (N 130) := zc8.spec zc8.imp
theorem zl0 : zit (AC P) 11 (N 207) := zc0.spec zc0.imp
theorem zmx : OneG zib zk3 (AC P) (N 473) := zc1.spg zc1.imp zmw zmv zl0
theorem zly : PutG zib zk3 14 (AC P) (N 470) := zbs.spg zbs.imp zmx
theorem zog : zgk (AC P) 1 (N 83) := zeu.spec zeu.imp zpy
theorem zoq : zcs (AC P) (N 84) := zft.nil0 zft.imp0
theorem zp4 : zgk (AC P) 6 (N 86) := zbb.spec zbb.imp zq2
theorem zok : zgk (AC P) 2 (N 89) := zw.spec zw.imp zpz
theorem zoo : zlt (AC P) 4 100000000 (N 90) := z7.spec z7.imp zp1 zj8
theorem zon : zgk (AC P) 8 (N 91) := z6.spec z6.imp zp0
theorem zoc : zc6.Spec (AC P) N := zc6.spec zc6.imp zgr
theorem znc : zgk (AC P) 6 (N 94) := zq.spec zq.imp zoc zhr
theorem zp3 : zcs (AC P) (N 95) := zf5.nil0 zf5.imp0
theorem zp7 : ApartK (AC P) bagS (N 62) := zdu.sps zdu.imp zod zp5 zom zog zoq zms zp4 zoe zp2 zok zoo zon zp6 zoh znc zp3 zof zop zmu zol zmt zoj zoi
theorem zne : ApartG zib zk3 14 bagS (AC P) (N 453) := zb2.spg zb2.imp zly zp7
theorem znb : zcn.Spec (AC P) N := zcn.spec zcn.imp zq1 zr8 zq4 zmg zqc zp9 zqu zhr zne
theorem rowReads_AC (H : za) (vs : List AVal) (h : AbsArgs H [.sl 48 2 tyRow] vs) : AC P 4 vs H fun v _ => v = .bool true := by
 obtain ⟨w, r, rfl, hw, rfl⟩ := h
 obtain ⟨L, h1, h2⟩ := dRows hw
 exact znb w L H _ h1 h2 rfl
theorem zt8 (os : Os) (started : os.Started) (H : Type) (enc : TypeId × Value -> H) :
  ReturnsInHanded {} Tryz.checked os 4 .any (Rows.rowReadsSpec.pre6 enc Tryz.prog Tryz.f4 Rows.rowReadsRow.domain false) (Rows.rowReadsSpec.post enc Tryz.prog Tryz.f4 false true false false) := by
 refine returnsInHanded_of_change_sized (C := Tryz.checked) own started (by kernel_rfl) Tryz.func4
  (ChangeSpec.witness6 (enc := enc) (C := Tryz.checked) false ⟨#[], #[.slice none 0 0], []⟩ 8 (by kernel_rfl) (by kernel_rfl) (by kernel_rfl) (by kernel_rfl)) ?_
 intro W base args ds gs before hval hW _ hwt _
 exact law_contract (n := 6) (tb := 4) laid (by kernel_rfl) rfl (fun H ds h => by
  have h : ds.length = 1 := h
  match ds, h with
  | [a], _ => rfl) (by kernel_rfl) (by kernel_rfl) (zpd Tryz.func4 (by kernel_rfl) (by kernel_rfl)) rowReads_AC hval hW hwt
theorem rowReads : Rows.RowReadsSaid :=
 OpenClaim.holds_of_wide 4 Tryz.f4 rfl rfl rfl rfl rfl rfl rfl ⟨rfl, rfl, rfl, rfl, rfl⟩ rfl rfl rfl rfl rfl (by kernel_rfl) Tryz.func4 (by kernel_rfl)
  (of_decide_eq_true (by kernel_rfl)) (by unfold Func.isWrapper; first | (rw [if_pos (by decide +kernel)]; kernel_rfl) | (rw [if_neg (by decide +kernel)]; exact ⟨rfl, rfl⟩))
  (fun os started H enc _ => zt8 os started H enc)
#print axioms rowReads
end Go.Proofs.YtljejbplojnnpaaGreat
