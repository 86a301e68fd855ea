/- What is proved: the statement, joined. No conditions. -/
import Derived.Test.YtlcijlhcilgknaaGreatRows
import Derived.Test.YtlcijlhcilgknaaGreatQ6
import Derived.Test.YtlcijlhcilgknaaGreatQ7
import Derived.Test.YtlcijlhcilgknaaGreatQ9
import Derived.Test.YtlcijlhcilgknaaGreatQ10
import Derived.WalkKit
import Derived.ProofKit
import Derived.OpenShut
set_option linter.unusedVariables false
set_option linter.unusedSimpArgs false
set_option maxRecDepth 100000
namespace Go.Proofs.YtlcijlhcilgknaaGreat
open Go.Ab Go.Ab.S12z
open Go.ChangeShapes Go.WideShapes Go.ChangeAt Go.RowKit
theorem own:ownKnob Tryz.prog.godebug=none:=by kernel_rfl
theorem laid:laidOutB Tryz.prog=true:=by kernel_rfl
theorem zu1:zgi.Spec (AC P) N:=zgi.spec zgi.imp
theorem zjd:zc2.Spec (AC P) N:=zc2.spec zc2.imp
theorem zp5:zd4.Spec (AC P) N:=zd4.spec zd4.imp zjd
theorem zmx:zx.Spec (AC P) N:=zx.spec zx.imp zp5
theorem zjr:NextI (AC P) (N 298):=zdk.spec zdk.imp
theorem zj3:LenI (AC P) (N 287):=zft.spec zft.imp zcd.imp
theorem zjg:PowI (AC P) (N 299):=zd1.spec zd1.imp zj3
theorem zk9:zea.Spec (AC P) N:=zea.spec zea.imp
theorem zp6:zeh.Spec (AC P) N:=zeh.spec zeh.imp zk9
theorem zg8:zb5.Spec (AC P) N:=zb5.spec zb5.imp zcj.imp zc9.imp zdm.imp zb7.imp zcu.imp zc0.imp zcr.imp zdh.imp zcp.imp zcl.imp zdv.imp zdt.imp zdf.imp zjr zjg zj3 zp6
theorem zgk:zbt.Spec (AC P) N:=zbt.spec zbt.imp
theorem zoh:zc7.Spec (AC P) N:=zc7.spec zc7.imp zk9
theorem zkp:zbz.Spec (AC P) N:=zbz.spec zbz.imp zoh
theorem zu2:zgt.Spec (AC P) N:=zgt.spec zgt.imp zkp
theorem zkd:zb2.Spec (AC P) N:=zb2.spec zb2.imp zck.imp zda.imp zdn.imp zb8.imp zcv.imp zc1.imp zcs.imp zdi.imp zcq.imp zdu.imp zdw.imp zcm.imp zdg.imp zjr zjg zj3 zu2
theorem zxd:ze0.Spec (AC P) N:=ze0.spec ze0.imp zmx zjd zg8 zgk zkd
theorem zin:zed.Spec (AC P) N:=zed.spec zed.imp
theorem zuz:zeo.Spec (AC P) N:=zeo.spec zeo.imp zin
theorem zh3:zbv.Spec (AC P) N:=zbv.spec zbv.imp
theorem zoq:zds.Spec (AC P) N:=zds.spec zds.imp zmx zjd zg8 zh3 zgk
theorem zr6:zfo.Spec (AC P) N:=zfo.spec zfo.imp
theorem zit:zbc.Spec (AC P) N:=zbc.spec zbc.imp zbn.imp zr6
theorem zlr:zcf.Spec (AC P) N:=zcf.spec zcf.imp
theorem zky:zo.Spec (AC P) N:=zo.spec zo.imp zlr
theorem zs7:zf5.Spec (AC P) N:=zf5.spec zf5.imp zky zg8 zh3 zgk
theorem zjs:zbd.Spec (AC P) N:=zbd.spec zbd.imp
theorem zjc:z7.Spec (AC P) N:=z7.spec z7.imp
theorem zr5:zfn.Spec (AC P) N:=zfn.spec zfn.imp
theorem zr4:zfm.Spec (AC P) N:=zfm.spec zfm.imp
theorem zn2:zq.Spec (AC P) N:=zq.spec zq.imp zit zoq zs7 zjs zjc zr5 zr4
theorem zk6:zcc.Spec (AC P) N:=zcc.spec zcc.imp
theorem zke:zbw.Spec (AC P) N:=zbw.spec zbw.imp zk6
theorem zj2:zbx.Spec (AC P) N:=zbx.spec zbx.imp
theorem zor:zci.Spec (AC P) N:=zci.spec zci.imp zke zj2 zgk
theorem ztt:zf6.Spec (AC P) N:=zf6.spec zf6.imp zu1 zxd zuz zoq zin zn2 zor
theorem zts:zce.Spec (AC P) N:=zce.spec zce.imp
theorem zn1:zdy.Spec (AC P) N:=zdy.spec zdy.imp zts
theorem zjt:zhe.Spec (AC P) N:=zhe.spec zhe.imp
theorem zi1:zfa.Spec (AC P) N:=zfa.spec zfa.imp zjt
theorem ziz:ze8.Spec (AC P) N:=ze8.spec ze8.imp zjt
theorem zrx:zey.Spec (AC P) N:=zey.spec zey.imp ziz
theorem ziy:ze7.Spec (AC P) N:=ze7.spec ze7.imp
theorem zmv:zen.Spec (AC P) N:=zen.spec zen.imp ziy
theorem zs4:zf3.Spec (AC P) N:=zf3.spec zf3.imp zrx zmv
theorem zrz:zcz.Spec (AC P) N:=zcz.spec zcz.imp zi1 zs4
theorem zrp:zev.Spec (AC P) N:=zev.spec zev.imp
theorem zi2:zfb.Spec (AC P) N:=zfb.spec zfb.imp zrp zin
theorem zr1:zee.Spec (AC P) N:=zee.spec zee.imp ziz
theorem zmw:zd8.Spec (AC P) N:=zd8.spec zd8.imp ziy
theorem zs6:zf4.Spec (AC P) N:=zf4.spec zf4.imp zi2 zr1 zmw
theorem zr3:zdj.Spec (AC P) N:=zdj.spec zdj.imp zs6 zi1 zi2
theorem zrt:zfi.Spec (AC P) N:=zfi.spec zfi.imp ziz
theorem zmu:zex.Spec (AC P) N:=zex.spec zex.imp ziy
theorem zs2:zf2.Spec (AC P) N:=zf2.spec zf2.imp zrt zmu
theorem zrv:zc4.Spec (AC P) N:=zc4.spec zc4.imp zs2 zi1
theorem zki:zeb.Spec (AC P) N:=zeb.spec zeb.imp
theorem zk7:zec.Spec (AC P) N:=zec.spec zec.imp zki
theorem zkj:zf0.Spec (AC P) N:=zf0.spec zf0.imp
theorem zrh:zb0.Spec (AC P) N:=zb0.spec zb0.imp zkj
theorem ztq:zcb.Spec (AC P) N:=zcb.spec zcb.imp zk7 zrh zki
theorem zux:zdb.Spec (AC P) N:=zdb.spec zdb.imp zk7 zkj ztq zki
theorem zk8:zj8 (AC P) 3 (N 405):=ze3.spec ze3.imp
theorem zml:zdl (AC P) (N 80):=zhf.zp8 zhf.zqc
theorem znh:zdl (AC P) (N 81):=zhz.zp8 zhz.zqc
theorem zms:zdl (AC P) (N 82):=zhl.zp8 zhl.zqc
theorem zmn:zho (AC P) 1 (N 83):=zgs.spec zgs.imp ziy
theorem zrn:zdl (AC P) (N 90):=zbh.zp8 zbh.zqc
theorem zni:zdl (AC P) (N 92):=zh0.zp8 zh0.zqc
theorem zmo:zdl (AC P) (N 93):=zhh.zp8 zhh.zqc
theorem zqm:zdl (AC P) (N 94):=zbb.zp8 zbb.zqc
theorem zng:zdl (AC P) (N 95):=zhy.zp8 zhy.zqc
theorem zmm:zdl (AC P) (N 96):=zhg.zp8 zhg.zqc
theorem zmt:zdl (AC P) (N 97):=zhm.zp8 zhm.zqc
theorem zlv:zdl (AC P) (N 98):=zgv.zp8 zgv.zqc
theorem zmr:zdl (AC P) (N 99):=zhk.zp8 zhk.zqc
theorem zlu:zdl (AC P) (N 100):=zgu.zp8 zgu.zqc
theorem zmq:zdl (AC P) (N 101):=zhj.zp8 zhj.zqc
theorem zmp:zdl (AC P) (N 102):=zhi.zp8 zhi.zqc
theorem zsz:zui (AC P) bagTx (N 62):=zeu.spl zeu.imp zml znh zms zmn zel.imp z9.imp zb6.imp zbi.imp zbq.imp zbr.imp zrn zbs.imp zni zmo zqm zng zmm zmt zlv zmr zlu zmq zmp
theorem zqo:zho (AC P) 1 (N 396):=zd3.spec zd3.imp zk8 zsz
theorem zu0:zc8.Spec (AC P) N:=zc8.spec zc8.imp zn1
theorem zjh:zfz.Spec (AC P) N:=zfz.spec zfz.imp zjt
theorem zs3:zfw.Spec (AC P) N:=zfw.spec zfw.imp zjh
theorem zi0:ze9.Spec (AC P) N:=ze9.spec ze9.imp zjt
theorem zry:zez.Spec (AC P) N:=zez.spec zez.imp zi0
theorem zrw:zfk.Spec (AC P) N:=zfk.spec zfk.imp zrz zs3 zry
theorem zrr:zd0.Spec (AC P) N:=zd0.spec zd0.imp zi2
theorem zs0:zfv.Spec (AC P) N:=zfv.spec zfv.imp
theorem zrq:zew.Spec (AC P) N:=zew.spec zew.imp
theorem zj4:zem.Spec (AC P) N:=zem.spec zem.imp zrr zs0 zrq
theorem zs5:zeq.Spec (AC P) N:=zeq.spec zeq.imp zjh
theorem zr2:zef.Spec (AC P) N:=zef.spec zef.imp zi0
theorem zr0:zfl.Spec (AC P) N:=zfl.spec zfl.imp zj4 zr3 zs5 zr2
theorem zs1:zf1.Spec (AC P) N:=zf1.spec zf1.imp zjh
theorem zru:zfj.Spec (AC P) N:=zfj.spec zfj.imp zi0
theorem zrs:zfh.Spec (AC P) N:=zfh.spec zfh.imp zrv zs1 zru
theorem ztr:zu.Spec (AC P) N:=zu.spec zu.imp zk7 zkj zux zki
theorem zuy:zcy.Spec (AC P) N:=zcy.spec zcy.imp zkj
theorem zpb:zj8 (AC P) 9 (N 481):=ze4.spec ze4.imp
theorem zqn:OneG zeg zt1 (AC P) (N 480):=zfs.spg zfs.imp zpb zk8
theorem zp3:PutG zeg zt1 10 (AC P) (N 475):=zdp.spg zdp.imp zqn
theorem zp2:zj8 (AC P) 6 (N 130):=zfr.spec zfr.imp
theorem zpc:zj8 (AC P) 11 (N 207):=ze5.spec ze5.imp
theorem zp4:OneG zk2 zof (AC P) (N 473):=ze6.spg ze6.imp zp3 zp2 zpc
theorem zpa:PutG zk2 zof 14 (AC P) (N 470):=zdc.spg zdc.imp zp4
theorem zro:zdl (AC P) (N 84):=zel.zp8 zel.zqc
theorem zp1:zdl (AC P) (N 85):=z9.zp8 z9.zqc
theorem zsx:zho (AC P) 6 (N 86):=zb6.spec zb6.imp zjh
theorem zrj:zdl (AC P) (N 87):=zbi.zp8 zbi.zqc
theorem zsw:zdl (AC P) (N 88):=zbq.zp8 zbq.zqc
theorem zrk:zho (AC P) 2 (N 89):=zbr.spec zbr.imp ziz
theorem zrm:zo5 (AC P) 4 100000000 (N 90):=zbh.spec zbh.imp zi1 zi2
theorem zrl:zho (AC P) 8 (N 91):=zbs.spec zbs.imp zi0
theorem zri:zfg.Spec (AC P) N:=zfg.spec zfg.imp zjt
theorem zql:zho (AC P) 6 (N 94):=zbb.spec zbb.imp zri zj4
theorem zsy:zui (AC P) zx3 (N 62):=zeu.sps zeu.imp zml znh zms zmn zro zp1 zsx zrj zsw zrk zrm zrl zni zmo zql zng zmm zmt zlv zmr zlu zmq zmp
theorem zqp:ApartG zk2 zof 14 zx3 (AC P) (N 453):=zdz.spg zdz.imp zpa zsy
theorem zo9:zd9.Spec (AC P) N:=zd9.spec zd9.imp ztt zn1 zu0 zrw zmv zn2 zor zr0 zmw zrs zmu ztr zin zuy zj4 zqo zqp
theorem groupCodes_AC(H:zb)(vs:List za)(h:AbsArgs H [.st tySta,.st tyAsk,.sl 16 1 .s] vs):AC P 4 vs H λv _=>v= .bool true:=by
 obtain⟨a,r,rfl,⟨cs,rfl,ha⟩,b,r1,rfl,⟨ds,rfl,hb⟩,w,r2,rfl,hw,rfl⟩:=h;obtain⟨s,x,y,z,rfl,hs,hS⟩:=dStateS ha;obtain⟨k,item,lot,line,hA,hl⟩:=dAsk hb;obtain⟨M,m1,m2,m3⟩:=dTextsL hw;exact zo9 s x y z ds k item lot line w M [] H _ hs hS hA hl m1 (by omega) m3 rfl
theorem zva(os:Os)(started:os.Started)(H:Type)(enc:TypeId×Value->H):
  ReturnsInHanded {} Tryz.checked os 4 .any (Rows.groupCodesSpec.pre6 enc Tryz.prog Tryz.f4 Rows.groupCodesRow.domain false) (Rows.groupCodesSpec.post enc Tryz.prog Tryz.f4 false true false false):=by
 refine returnsInHanded_of_change_sized (C:=Tryz.checked) own started (by kernel_rfl) Tryz.func4
  (ChangeSpec.witness6 (enc:=enc) (C:=Tryz.checked) false ⟨#[], #[.agg #[.int .i64 0,.int .i64 0,.int .i64 0,.slice none 0 0,.slice none 0 0,.slice none 0 0],.agg #[.int .u8 0,.int .i64 0,.string ⟨#[]⟩,.int .i64 0,.int .i64 0,.int .i64 0,.int .i64 0,.int .i64 0,.int .i64 0,.slice none 0 0,.slice none 0 0],.slice none 0 0],[]⟩ 8 (by kernel_rfl) (by kernel_rfl) (by kernel_rfl) (by kernel_rfl)) ?_
 intro W base args ds gs before hval hW _ hwt _
 exact law_contract (n:=6) (tb:=4) laid (by kernel_rfl) rfl (λH ds h=>by
  have h:ds.length=3:=h
  match ds,h with
  | [a,b,c],_=>rfl) (by kernel_rfl) (by kernel_rfl) (zsm Tryz.func4 (by kernel_rfl) (by kernel_rfl)) groupCodes_AC hval hW hwt
theorem groupCodes:Rows.GroupCodesSaid:=
 OpenClaim.holds_of_wide 4 Tryz.f4 rfl rfl rfl rfl rfl rfl rfl ⟨rfl,rfl,rfl,rfl,rfl⟩ rfl rfl rfl rfl rfl (by kernel_rfl) Tryz.func4 (by kernel_rfl)
  (of_decide_eq_true (by kernel_rfl)) (by unfold Func.isWrapper;first|(rw[if_pos (by decide +kernel)];kernel_rfl)|(rw[if_neg (by decide +kernel)];exact⟨rfl,rfl⟩))
  (λos started H enc _=>zva os started H enc)
#print axioms groupCodes
end Go.Proofs.YtlcijlhcilgknaaGreat
