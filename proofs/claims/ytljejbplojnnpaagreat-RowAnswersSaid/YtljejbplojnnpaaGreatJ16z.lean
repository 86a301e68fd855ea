/- What is proved: the statement, joined. No conditions. -/
import Derived.Test.YtljejbplojnnpaaGreatRows
import Derived.Test.YtljejbplojnnpaaGreatQ6
import Derived.Test.YtljejbplojnnpaaGreatQ7
import Derived.Test.YtljejbplojnnpaaGreatQ9
import Derived.WalkKit
import Derived.ProofKit
import Derived.OpenShut
set_option linter.unusedVariables false
set_option linter.unusedSimpArgs false
set_option maxRecDepth 100000
namespace Go.Proofs.YtljejbplojnnpaaGreat
open Go.Ab Go.Ab.S16z
open Go.ChangeShapes Go.WideShapes Go.ChangeAt Go.RowKit
theorem own : ownKnob Tryz.prog.godebug = none := by kernel_rfl
theorem laid : laidOutB Tryz.prog = true := by kernel_rfl
theorem zq5 : zea.Spec (AC P) N := zea.spec zea.imp
theorem zgd : zb9.Spec (AC P) N := zb9.spec zb9.imp
theorem ziw : zba.Spec (AC P) N := zba.spec zba.imp
theorem zh5 : zr.Spec (AC P) N := zr.spec zr.imp ziw
theorem ztf : zd2.Spec (AC P) N := zd2.spec zd2.imp zgd zh5
theorem zuv : zdf.Spec (AC P) N := zdf.spec zdf.imp ztf
theorem zps : zdl.Spec (AC P) N := zdl.spec zdl.imp
theorem zmh : ze6.Spec (AC P) N := ze6.spec ze6.imp zgd zps
theorem zsb : zer.Spec (AC P) N := zer.spec zer.imp zgd
theorem zte : zbu.Spec (AC P) N := zbu.spec zbu.imp zuv zmh zsb
theorem zln : zcl.Spec (AC P) N := zcl.spec zcl.imp
theorem zj2 : zbl.Spec (AC P) N := zbl.spec zbl.imp
theorem zjo : zg.Spec (AC P) N := zg.spec zg.imp zj2
theorem zke : zfc.Spec (AC P) N := zfc.spec zfc.imp zjo
theorem zth : zen.Spec (AC P) N := zen.spec zen.imp zke
theorem zuw : zgn.Spec (AC P) N := zgn.spec zgn.imp
theorem znc : zfg.Spec (AC P) N := zfg.spec zfg.imp zgd zuw
theorem zo6 : zw.Spec (AC P) N := zw.spec zw.imp zte zln zth znc zke
theorem zow : zdu.Spec (AC P) N := zdu.spec zdu.imp zi6.imp
theorem zf3 : zp.Spec (AC P) N := zp.spec zp.imp
theorem znd : zf5.Spec (AC P) N := zf5.spec zf5.imp zgd
theorem zhc : zb3.Spec (AC P) N := zb3.spec zb3.imp znd
theorem zmr : zz.Spec (AC P) N := zz.spec zz.imp zf3 zhc
theorem zm7 : zco.Spec (AC P) N := zco.spec zco.imp zf3 zhc
theorem zmq : zch.Spec (AC P) N := zch.spec zch.imp zf3 zhc
theorem ziz : zd4.Spec (AC P) N := zd4.spec zd4.imp
theorem zq3 : zd8.Spec (AC P) N := zd8.spec zd8.imp ziz
theorem zf6 : zb.Spec (AC P) N := zb.spec zb.imp zq3
theorem ztg : zbc.Spec (AC P) N := zbc.spec zbc.imp zow zf3 zmr zm7 zmq zo6 zf6
theorem zlm : zbw.Spec (AC P) N := zbw.spec zbw.imp zmh zgd
theorem zus : ze8.Spec (AC P) N := ze8.spec ze8.imp
theorem zut : zb2.Spec (AC P) N := zb2.spec zb2.imp zlm zus znc
theorem zk8 : zgq.Spec (AC P) N := zgq.spec zgq.imp zln zke
theorem zju : zbj.Spec (AC P) N := zbj.spec zbj.imp
theorem zrb : zeh.Spec (AC P) N := zeh.spec zeh.imp
theorem zlo : zb1.Spec (AC P) N := zb1.spec zb1.imp (AC_cmono P) zut zk8 zju zq.imp zrb
theorem zmy : zck.Spec (AC P) N := zck.spec zck.imp ziz
theorem zey : zn.Spec (AC P) N := zn.spec zn.imp
theorem ziv : zb0.Spec (AC P) N := zb0.spec zb0.imp znd
theorem zmp : zcg.Spec (AC P) N := zcg.spec zcg.imp zey ziv
theorem zll : zbi.Spec (AC P) N := zbi.spec zbi.imp zey zmp
theorem zmo : zcf.Spec (AC P) N := zcf.spec zcf.imp zey
theorem zlk : zbh.Spec (AC P) N := zbh.spec zbh.imp zey zmo
theorem zuu : zdx.Spec (AC P) N := zdx.spec zdx.imp zey ziv zll zlk zlm
theorem zkf : zbg.Spec (AC P) N := zbg.spec zbg.imp zk8 zmy ziz zuu
theorem zie : zcn.zns (AC P) N := zcn.spl zcn.imp
theorem zor : zcu.Spec (AC P) N := zcu.spec zcu.imp
theorem zop : zct.Spec (AC P) N := zct.spec zct.imp
theorem zp5 : zdo.Spec (AC P) N := zdo.spec zdo.imp zor zop
theorem zot : zbx.Spec (AC P) N := zbx.spec zbx.imp zp5
theorem zkh : zc4.Spec (AC P) N := zc4.spec zc4.imp
theorem zos : zcv.Spec (AC P) N := zcv.spec zcv.imp
theorem zoq : zc1.Spec (AC P) N := zc1.spec zc1.imp zot zkh zos
theorem zq6 : zdv.Spec (AC P) N := zdv.spec zdv.imp zq5 zo6 ztg zlo zkf zie zoq
theorem zix : zf4.Spec (AC P) N := zf4.spec zf4.imp
theorem zhj : zdi.Spec (AC P) N := zdi.spec zdi.imp zix
theorem zqd : zdb.Spec (AC P) N := zdb.spec zdb.imp zhj
theorem zqi : zcs.Spec (AC P) N := zcs.spec zcs.imp zhj
theorem zp9 : zdr.Spec (AC P) N := zdr.spec zdr.imp zhj
theorem zhg : zca.Spec (AC P) N := zca.spec zca.imp
theorem zq4 : zd9.Spec (AC P) N := zd9.spec zd9.imp zhg
theorem zpt : zcd.Spec (AC P) N := zcd.spec zcd.imp
theorem ztl : zfd.Spec (AC P) N := zfd.spec zfd.imp zhg
theorem zpu : zb7.Spec (AC P) N := zb7.spec zb7.imp
theorem zhk : zdj.Spec (AC P) N := zdj.spec zdj.imp zie
theorem zp4 : zb8.Spec (AC P) N := zb8.spec zb8.imp zhk
theorem ziy : zji (AC P) 4 (N 63) := zcx.spec zcx.imp
theorem zob : zcm (AC P) (N 80) := zfm.nil0 zfm.imp0
theorem zp0 : zcm (AC P) (N 81) := zga.nil0 zga.imp0
theorem zok : zcm (AC P) (N 82) := zfu.nil0 zfu.imp0
theorem zoe : zcm (AC P) (N 83) := zfp.nil0 zfp.imp0
theorem zge : zcq.Spec (AC P) N := zcq.spec zcq.imp zix
theorem zp1 : zi9 (AC P) 1 140737488351232 (N 84) := zeu.spl zeu.imp zge
theorem zms : zcm (AC P) (N 85) := zez.nil0 zez.imp0
theorem zoc : zcm (AC P) (N 87) := zfn.nil0 zfn.imp0
theorem zoi : zcm (AC P) (N 89) := zfs.nil0 zfs.imp0
theorem zom : zcm (AC P) (N 90) := zfw.nil0 zfw.imp0
theorem zol : zcm (AC P) (N 91) := zfv.nil0 zfv.imp0
theorem zp2 : zcm (AC P) (N 92) := zgb.nil0 zgb.imp0
theorem zm9 : zcm (AC P) (N 94) := zfa.nil0 zfa.imp0
theorem zhi : zdh.Spec (AC P) N := zdh.spec zdh.imp zge
theorem zpy : zi9 (AC P) 2 100000000 (N 95) := z7.spec z7.imp zhi zhk
theorem zod : zcm (AC P) (N 96) := zfo.nil0 zfo.imp0
theorem zon : zcm (AC P) (N 97) := zfx.nil0 zfx.imp0
theorem zmu : zcm (AC P) (N 98) := ze1.nil0 ze1.imp0
theorem zoj : zcm (AC P) (N 99) := zft.nil0 zft.imp0
theorem zmt : zcm (AC P) (N 100) := ze0.nil0 ze0.imp0
theorem zoh : zcm (AC P) (N 101) := zfr.nil0 zfr.imp0
theorem zog : zcm (AC P) (N 102) := zfq.nil0 zfq.imp0
theorem zsc : zcp.Spec (AC P) N := zcp.spec zcp.imp
theorem zqe : zcw.zns (AC P) N := zcw.spl zcw.imp zge
theorem zq9 : zec.Spec (AC P) N := zec.spec zec.imp zqe
theorem zq8 : zbp.SpecO (AC P) N := zbp.spo zbp.imp zhi zq9
theorem zqj : zci.zns (AC P) N := zci.spl zci.imp zge
theorem zra : zed.Spec (AC P) N := zed.spec zed.imp zhk zqj
theorem zqh : zby.Spec (AC P) N := zby.spec zby.imp zra zhi zhk
theorem zqa : zc2.zns (AC P) N := zc2.spl zc2.imp zge
theorem zq7 : zeb.Spec (AC P) N := zeb.spec zeb.imp zqa
theorem zp8 : zbq.Spec (AC P) N := zbq.spec zbq.imp zq7 zhi
theorem zhv : zo.Spec (AC P) N := zo.spec zo.imp
theorem ztm : zfe.Spec (AC P) N := zfe.spec zfe.imp zhg
theorem zil : zbt.Spec (AC P) N := zbt.spec zbt.imp ztm
theorem zmx : zji (AC P) 6 (N 130) := zc6.spec zc6.imp
theorem zpz : zhm (AC P) 6 (N 86) := z9.spec z9.imp zhj
theorem zhh : zdg.Spec (AC P) N := zdg.spec zdg.imp zix
theorem zqb : zda.Spec (AC P) N := zda.spec zda.imp zhh
theorem zqc : zds.Spec (AC P) N := zds.spec zds.imp zqd zqb
theorem zp3 : zc9.Spec (AC P) N := zc9.spec zc9.imp
theorem zid : zc3.Spec (AC P) N := zc3.spec zc3.imp zkh zp3
theorem zqf : zcr.Spec (AC P) N := zcr.spec zcr.imp zhh
theorem zqg : zdt.Spec (AC P) N := zdt.spec zdt.imp zid zqi zqf
theorem zp6 : zdp.Spec (AC P) N := zdp.spec zdp.imp zhh
theorem zp7 : zdq.Spec (AC P) N := zdq.spec zdq.imp zp9 zp6
theorem zk0 : zbk.Spec (AC P) N := zbk.spec zbk.imp zq4 zhg
theorem zpv : zce.Spec (AC P) N := zce.spec zce.imp
theorem ztj : zbn.Spec (AC P) N := zbn.spec zbn.imp zk0 zpv ztl
theorem zjv : zex.Spec (AC P) N := zex.spec zex.imp zpt zpu
theorem zkg : zbm.Spec (AC P) N := zbm.spec zbm.imp ztj zjv
theorem zti : ze5.Spec (AC P) N := ze5.spec ze5.imp zhv zil
theorem ztk : zbe.Spec (AC P) N := zbe.spec zbe.imp zhv zil zti zk0
theorem zm8 : zh.Spec (AC P) N := zh.spec zh.imp zjv ztk zkg
theorem zoo : OneG rowK zoa (AC P) (N 315) := zdw.spg zdw.imp ziy
theorem zna : PutG rowK zoa 15 (AC P) (N 312) := zbz.spg zbz.imp zoo
theorem zpx : zhm (AC P) 3 (N 88) := z6.spec z6.imp zhh
theorem zpw : zdn.Spec (AC P) N := zdn.spec zdn.imp zix
theorem zof : zhm (AC P) 7 (N 93) := zt.spec zt.imp zpw zid
theorem zic : zta (AC P) bagA (N 62) := zd0.spa zd0.imp zob zp0 zok zoe zp1 zms zpz zoc zpx zoi zom zol zp2 zof zm9 zpy zod zon zmu zoj zmt zoh zog
theorem zqk : zr0 rowK zoa 15 bagA (AC P) (N 307) := zcj.spg zcj.imp zna zic
theorem zmv : zji (AC P) 8 (N 131) := zc5.spec zc5.imp
theorem znb : OneG zmn zhz (AC P) (N 105) := zc7.spg zc7.imp zmx zmv
theorem zmw : PutG zmn zhz 13 (AC P) (N 76) := zbr.spg zbr.imp znb
theorem zou : zr0 zmn zhz 13 bagA (AC P) (N 43) := zb4.spg zb4.imp zmw zic
theorem zov : zhm (AC P) 1 (N 35) := zb5.spg zb5.imp ziy zic
theorem zl3 : zcb.Spec (AC P) N := zcb.spec zcb.imp zq6 zsc zqc zq8 zlo zkf zk8 zqg zqh zp7 zp8 zkg zm8 zp4 zid zjv zie zqk zou zov
theorem rowAnswers_AC (H : za) (vs : List AVal) (h : AbsArgs H [.i .i64, .i .i64, .i .i64, .st tyTell, .sl 48 2 tyRow] vs) : AC P 5 vs H fun v _ => v = .bool true := by
 obtain ⟨a, r1, rfl, ⟨n1, e1, _⟩, b, r2, rfl, ⟨n2, e2, _⟩, c, r3, rfl, ⟨n3, e3, _⟩, d, r4, rfl, ⟨ct, rfl, hb⟩, w, r5, rfl, hw, rfl⟩ := h
 cases e1
 cases e2
 cases e3
 obtain ⟨t, u, v, rfl, ht, hok⟩ := dTell hb
 obtain ⟨L, h1, h2⟩ := dRows hw
 exact zl3 n1 n2 n3 t u v w L H _ ht h1 h2 rfl
theorem zr6 (os : Os) (started : os.Started) (H : Type) (enc : TypeId × Value -> H) :
  ReturnsInHanded {} Tryz.checked os 5 .any (Rows.rowAnswersSpec.pre6 enc Tryz.prog Tryz.f5 Rows.rowAnswersRow.domain false) (Rows.rowAnswersSpec.post enc Tryz.prog Tryz.f5 false true false false) := by
 refine returnsInHanded_of_change_sized (C := Tryz.checked) own started (by kernel_rfl) Tryz.func5
  (ChangeSpec.witness6 (enc := enc) (C := Tryz.checked) false ⟨#[], #[.int .i64 0, .int .i64 0, .int .i64 0, .agg #[.int .i64 0, .int .i64 0, .int .i64 0, .string ⟨#[]⟩, .int .u8 0, .slice none 0 0, .slice none 0 0], .slice none 0 0], []⟩ 8 (by kernel_rfl) (by kernel_rfl) (by kernel_rfl) (by kernel_rfl)) ?_
 intro W base args ds gs before hval hW _ hwt _
 exact law_contract (n := 6) (tb := 4) laid (by kernel_rfl) rfl (fun H ds h => by
  have h : ds.length = 5 := h
  match ds, h with
  | [a, b, c, d, e], _ => rfl) (by kernel_rfl) (by kernel_rfl) (zpd Tryz.func5 (by kernel_rfl) (by kernel_rfl)) rowAnswers_AC hval hW hwt
theorem rowAnswers : Rows.RowAnswersSaid :=
 OpenClaim.holds_of_wide 5 Tryz.f5 rfl rfl rfl rfl rfl rfl rfl ⟨rfl, rfl, rfl, rfl, rfl⟩ rfl rfl rfl rfl rfl (by kernel_rfl) Tryz.func5 (by kernel_rfl)
  (of_decide_eq_true (by kernel_rfl)) (by unfold Func.isWrapper; first | (rw [if_pos (by decide +kernel)]; kernel_rfl) | (rw [if_neg (by decide +kernel)]; exact ⟨rfl, rfl⟩))
  (fun os started H enc _ => zr6 os started H enc)
#print axioms rowAnswers
end Go.Proofs.YtljejbplojnnpaaGreat
