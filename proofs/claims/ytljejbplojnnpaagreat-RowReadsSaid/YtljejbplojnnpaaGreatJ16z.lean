/- What is proved: the statement, joined. No conditions. -/
import Derived.Test.YtljejbplojnnpaaGreatRows
import Derived.Test.YtljejbplojnnpaaGreatQ6
import Derived.Test.YtljejbplojnnpaaGreatQ7
import Derived.Test.YtljejbplojnnpaaGreatQ9
import Derived.WalkKit
import Derived.ProofKit
import Derived.OpenShut
set_option linter.unusedVariables false
set_option linter.unusedSimpArgs false
set_option maxRecDepth 100000
namespace Go.Proofs.YtljejbplojnnpaaGreat
open Go.Ab Go.Ab.S16z
open Go.ChangeShapes Go.WideShapes Go.ChangeAt Go.RowKit
theorem own : ownKnob Tryz.prog.godebug = none := by zbp
theorem laid : laidOutB Tryz.prog = true := by zbp
theorem zq1 : zea.Spec (AC P) N := zea.spec zea.imp
theorem zga : zch.Spec (AC P) N := zch.spec zch.imp
theorem zih : zbc.Spec (AC P) N := zbc.spec zbc.imp
theorem zhv : zu.Spec (AC P) N := zu.spec zu.imp zih
theorem zta : zdw.Spec (AC P) N := zdw.spec zdw.imp zga zhv
theorem zuq : zdg.Spec (AC P) N := zdg.spec zdg.imp zta
theorem zpt : zdh.Spec (AC P) N := zdh.spec zdh.imp
theorem zmi : ze6.Spec (AC P) N := ze6.spec ze6.imp zga zpt
theorem zr8 : zet.Spec (AC P) N := zet.spec zet.imp zga
theorem zs9 : zb2.Spec (AC P) N := zb2.spec zb2.imp zuq zmi zr8
theorem zlj : zcn.Spec (AC P) N := zcn.spec zcn.imp
theorem zjs : zbs.Spec (AC P) N := zbs.spec zbs.imp
theorem zjb : zh.Spec (AC P) N := zh.spec zh.imp zjs
theorem zj7 : zfc.Spec (AC P) N := zfc.spec zfc.imp zjb
theorem ztb : zeq.Spec (AC P) N := zeq.spec zeq.imp zj7
theorem zur : zgk.Spec (AC P) N := zgk.spec zgk.imp
theorem zng : zff.Spec (AC P) N := zff.spec zff.imp zga zur
theorem zo7 : z9.Spec (AC P) N := z9.spec z9.imp zs9 zlj ztb zng zj7
theorem zow : zdo.Spec (AC P) N := zdo.spec zdo.imp zir.imp
theorem zfy : zn.Spec (AC P) N := zn.spec zn.imp
theorem znh : zf0.Spec (AC P) N := zf0.spec zf0.imp zga
theorem zha : zcd.Spec (AC P) N := zcd.spec zcd.imp znh
theorem zms : zba.Spec (AC P) N := zba.spec zba.imp zfy zha
theorem znb : zcp.Spec (AC P) N := zcp.spec zcp.imp zfy zha
theorem zmr : zck.Spec (AC P) N := zck.spec zck.imp zfy zha
theorem zij : zdz.Spec (AC P) N := zdz.spec zdz.imp
theorem zqt : zd6.Spec (AC P) N := zd6.spec zd6.imp zij
theorem zf1 : zb.Spec (AC P) N := zb.spec zb.imp zqt
theorem zmh : zbd.Spec (AC P) N := zbd.spec zbd.imp zow zfy zms znb zmr zo7 zf1
theorem zli : zb4.Spec (AC P) N := zb4.spec zb4.imp zmi zga
theorem zun : ze8.Spec (AC P) N := ze8.spec ze8.imp
theorem zuo : zcc.Spec (AC P) N := zcc.spec zcc.imp zli zun zng
theorem zo6 : zgr.Spec (AC P) N := zgr.spec zgr.imp zlj zj7
theorem zjf : zbq.Spec (AC P) N := zbq.spec zbq.imp
theorem zq8 : zej.Spec (AC P) N := zej.spec zej.imp
theorem zr5 : zcb.Spec (AC P) N := zcb.spec zcb.imp (AC_cmono P) zuo zo6 zjf zt.imp zq8
theorem zmz : zcm.Spec (AC P) N := zcm.spec zcm.imp zij
theorem ze0 : zm.Spec (AC P) N := zm.spec zm.imp
theorem zig : zb9.Spec (AC P) N := zb9.spec zb9.imp znh
theorem zmq : zcj.Spec (AC P) N := zcj.spec zcj.imp ze0 zig
theorem zlh : zbo.Spec (AC P) N := zbo.spec zbo.imp ze0 zmq
theorem zmp : zci.Spec (AC P) N := zci.spec zci.imp ze0
theorem zlg : zbn.Spec (AC P) N := zbn.spec zbn.imp ze0 zmp
theorem zup : zdt.Spec (AC P) N := zdt.spec zdt.imp ze0 zig zlh zlg zli
theorem zpu : zbl.Spec (AC P) N := zbl.spec zbl.imp zo6 zmz zij zup
theorem zka : zcr.zoz (AC P) N := zcr.spl zcr.imp
theorem zot : zcw.Spec (AC P) N := zcw.spec zcw.imp
theorem zos : zcv.Spec (AC P) N := zcv.spec zcv.imp
theorem zj9 : zde.Spec (AC P) N := zde.spec zde.imp zot zos
theorem zov : zb6.Spec (AC P) N := zb6.spec zb6.imp zj9
theorem zp9 : zdd.Spec (AC P) N := zdd.spec zdd.imp
theorem zou : zcx.Spec (AC P) N := zcx.spec zcx.imp
theorem zhs : zcq.Spec (AC P) N := zcq.spec zcq.imp zov zp9 zou
theorem zq2 : zdp.Spec (AC P) N := zdp.spec zdp.imp zq1 zo7 zmh zr5 zpu zka zhs
theorem zgs : zfi.Spec (AC P) N := zfi.spec zfi.imp
theorem zp2 : zdm.Spec (AC P) N := zdm.spec zdm.imp zgs
theorem zp0 : zdk.Spec (AC P) N := zdk.spec zdk.imp zgs
theorem zpz : zdj.Spec (AC P) N := zdj.spec zdj.imp
theorem zq3 : zeb.Spec (AC P) N := zeb.spec zeb.imp zgs
theorem zp1 : zdl.Spec (AC P) N := zdl.spec zdl.imp zgs
theorem zey : zb5.Spec (AC P) N := zb5.spec zb5.imp
theorem zpy : zbi.Spec (AC P) N := zbi.spec zbi.imp
theorem ztd : zdx.Spec (AC P) N := zdx.spec zdx.imp
theorem zqx : zbu.Spec (AC P) N := zbu.spec zbu.imp zey
theorem zpx : zbr.Spec (AC P) N := zbr.spec zbr.imp zey
theorem zqy : zd7.Spec (AC P) N := zd7.spec zd7.imp zpy ztd zey zqx zpx
theorem zr7 : zes.Spec (AC P) N := zes.spec zes.imp zey zqy
theorem zq0 : zd9.Spec (AC P) N := zd9.spec zd9.imp zey
theorem zqz : zd8.Spec (AC P) N := zd8.spec zd8.imp zey
theorem zqw : zbk.Spec (AC P) N := zbk.spec zbk.imp zr7 zq0 zqz
theorem zg1 : zb7.Spec (AC P) N := zb7.spec zb7.imp
theorem zjg : zez.Spec (AC P) N := zez.spec zez.imp zey
theorem zpw : zbh.Spec (AC P) N := zbh.spec zbh.imp zg1 zjg
theorem zj8 : zcf.Spec (AC P) N := zcf.spec zcf.imp
theorem zqu : zca.Spec (AC P) N := zca.spec zca.imp zg1 zjg zj8
theorem zpv : zdi.Spec (AC P) N := zdi.spec zdi.imp zg1 zjg zj8
theorem ztc : zbx.Spec (AC P) N := zbx.spec zbx.imp zqw zg1 zpw zqu zpv
theorem zkv : zdy.Spec (AC P) N := zdy.spec zdy.imp zka
theorem zoe : zct (AC P) (N 80) := zfl.nil0 zfl.imp0
theorem zp6 : zct (AC P) (N 81) := zf7.nil0 zf7.imp0
theorem zon : zct (AC P) (N 82) := zfs.nil0 zfs.imp0
theorem zg2 : zc3.Spec (AC P) N := zc3.spec zc3.imp zgs
theorem zmt : zct (AC P) (N 85) := ze1.nil0 ze1.imp0
theorem zof : zct (AC P) (N 87) := zfm.nil0 zfm.imp0
theorem zp3 : zct (AC P) (N 88) := zf5.nil0 zf5.imp0
theorem zp7 : zct (AC P) (N 92) := zf8.nil0 zf8.imp0
theorem zoi : zct (AC P) (N 93) := zfo.nil0 zfo.imp0
theorem zii : zdq.Spec (AC P) N := zdq.spec zdq.imp zg2
theorem zog : zct (AC P) (N 96) := zfn.nil0 zfn.imp0
theorem zoq : zct (AC P) (N 97) := zft.nil0 zft.imp0
theorem zmv : zct (AC P) (N 98) := ze3.nil0 ze3.imp0
theorem zom : zct (AC P) (N 99) := zfr.nil0 zfr.imp0
theorem zmu : zct (AC P) (N 100) := ze2.nil0 ze2.imp0
theorem zok : zct (AC P) (N 101) := zfq.nil0 zfq.imp0
theorem zoj : zct (AC P) (N 102) := zfp.nil0 zfp.imp0
theorem zr9 : zcu.Spec (AC P) N := zcu.spec zcu.imp
theorem zqc : zcy.zoz (AC P) N := zcy.spl zcy.imp zg2
theorem zq6 : zed.Spec (AC P) N := zed.spec zed.imp zqc
theorem zq5 : zbw.SpecO (AC P) N := zbw.spo zbw.imp zii zq6
theorem zqe : zcl.zoz (AC P) N := zcl.spl zcl.imp zg2
theorem zq7 : zee.Spec (AC P) N := zee.spec zee.imp zkv zqe
theorem zqd : zb8.Spec (AC P) N := zb8.spec zb8.imp zq7 zii zkv
theorem zqb : zc8.zoz (AC P) N := zc8.spl zc8.imp zg2
theorem zq4 : zec.Spec (AC P) N := zec.spec zec.imp zqb
theorem zqa : zby.Spec (AC P) N := zby.spec zby.imp zq4 zii
theorem zks : zo.Spec (AC P) N := zo.spec zo.imp
theorem zte : zfd.Spec (AC P) N := zfd.spec zfd.imp zey
theorem zlk : zb1.Spec (AC P) N := zb1.spec zb1.imp zte
theorem zr6 : zp.Spec (AC P) N := zp.spec zp.imp zks zlk
theorem zqv : zbe.Spec (AC P) N := zbe.spec zbe.imp zr6 ztc
theorem zl0 : ziu (AC P) 9 (N 481) := zc0.spec zc0.imp
theorem zly : ziu (AC P) 3 (N 405) := zcz.spec zcz.imp
theorem zne : OneG ze4 zrg (AC P) (N 480) := zda.spg zda.imp zl0 zly
theorem zmx : PutG ze4 zrg 10 (AC P) (N 475) := zbz.spg zbz.imp zne
theorem zmw : ziu (AC P) 6 (N 130) := zc9.spec zc9.imp
theorem zl1 : ziu (AC P) 11 (N 207) := zc1.spec zc1.imp
theorem zmy : OneG zic zk4 (AC P) (N 473) := zc2.spg zc2.imp zmx zmw zl1
theorem zlz : PutG zic zk4 14 (AC P) (N 470) := zbt.spg zbt.imp zmy
theorem zoh : zgl (AC P) 1 (N 83) := zev.spec zev.imp zpz
theorem zor : zct (AC P) (N 84) := zfu.nil0 zfu.imp0
theorem zp5 : zgl (AC P) 6 (N 86) := zbb.spec zbb.imp zq3
theorem zol : zgl (AC P) 2 (N 89) := zw.spec zw.imp zp0
theorem zop : zlu (AC P) 4 100000000 (N 90) := z7.spec z7.imp zp2 zj9
theorem zoo : zgl (AC P) 8 (N 91) := z6.spec z6.imp zp1
theorem zod : zc7.Spec (AC P) N := zc7.spec zc7.imp zgs
theorem znd : zgl (AC P) 6 (N 94) := zq.spec zq.imp zod zhs
theorem zp4 : zct (AC P) (N 95) := zf6.nil0 zf6.imp0
theorem zp8 : ApartK (AC P) bagS (N 62) := zdv.sps zdv.imp zoe zp6 zon zoh zor zmt zp5 zof zp3 zol zop zoo zp7 zoi znd zp4 zog zoq zmv zom zmu zok zoj
theorem znf : ApartG zic zk4 14 bagS (AC P) (N 453) := zb3.spg zb3.imp zlz zp8
theorem znc : zco.Spec (AC P) N := zco.spec zco.imp zq2 zr9 zq5 zmh zqd zqa zqv zhs znf
theorem rowReads_AC (H : za) (vs : List AVal) (h : AbsArgs H [.sl 48 2 tyRow] vs) : AC P 4 vs H fun v _ => v = .bool true := by
 obtain ⟨w, r, rfl, hw, rfl⟩ := h
 obtain ⟨L, h1, h2⟩ := dRows hw
 exact znc w L H _ h1 h2 rfl
theorem zt9 (os : Os) (started : os.Started) (H : Type) (enc : TypeId × Value -> H) :
  ReturnsInHanded {} Tryz.checked os 4 .any (Rows.rowReadsSpec.pre6 enc Tryz.prog Tryz.f4 Rows.rowReadsRow.domain false) (Rows.rowReadsSpec.post enc Tryz.prog Tryz.f4 false true false false) := by
 refine returnsInHanded_of_change_sized (C := Tryz.checked) own started (by zbp) Tryz.func4
  (ChangeSpec.witness6 (enc := enc) (C := Tryz.checked) false ⟨#[], #[.slice none 0 0], []⟩ 8 (by zbp) (by zbp) (by zbp) (by zbp)) ?_
 intro W base args ds gs before hval hW _ hwt _
 exact law_contract (n := 6) (tb := 4) laid (by zbp) rfl (fun H ds h => by
  have h : ds.length = 1 := h
  match ds, h with
  | [a], _ => rfl) (by zbp) (by zbp) (zpe Tryz.func4 (by zbp) (by zbp)) rowReads_AC hval hW hwt
theorem rowReads : Rows.RowReadsSaid :=
 OpenClaim.holds_of_wide 4 Tryz.f4 rfl rfl rfl rfl rfl rfl rfl ⟨rfl, rfl, rfl, rfl, rfl⟩ rfl rfl rfl rfl rfl (by zbp) Tryz.func4 (by zbp)
  (of_decide_eq_true (by zbp)) (by unfold Func.isWrapper; first | (rw [if_pos (by decide +kernel)]; zbp) | (rw [if_neg (by decide +kernel)]; exact ⟨rfl, rfl⟩))
  (fun os started H enc _ => zt9 os started H enc)
#print axioms rowReads
end Go.Proofs.YtljejbplojnnpaaGreat
