/- What is proved: the statement, joined. No conditions. -/
import Derived.Test.YtmabmeiangoepaaGreatRows
import Derived.Test.YtmabmeiangoepaaGreatQ6
import Derived.Test.YtmabmeiangoepaaGreatQ7
import Derived.Test.YtmabmeiangoepaaGreatQ10
import Derived.WalkKit
import Derived.ProofKit
import Derived.OpenShut
set_option linter.unusedVariables false
set_option linter.unusedSimpArgs false
set_option maxRecDepth 100000
namespace Go.Proofs.YtmabmeiangoepaaGreat
open Go.Ab Go.Ab.S08z
open Go.ChangeShapes Go.WideShapes Go.ChangeAt Go.RowKit
theorem own : ownKnob Tryz.prog.godebug = none := by kernel_rfl
theorem laid : laidOutB Tryz.prog = true := by kernel_rfl
theorem zi5 : zd0.Spec (AC P) N := zd0.spec zd0.imp
theorem zod : zel.Spec (AC P) N := zel.spec zel.imp
theorem zf4 : zq.Spec (AC P) N := zq.spec zq.imp zod
theorem zhh : zbu.Spec (AC P) N := zbu.spec zbu.imp
theorem zg4 : zbm.Spec (AC P) N := zbm.spec zbm.imp zhh
theorem zkq : ze4.Spec (AC P) N := ze4.spec ze4.imp zg4
theorem zil : zez.Spec (AC P) N := zez.spec zez.imp zf4 zkq
theorem zgj : zc8.Spec (AC P) N := zc8.spec zc8.imp
theorem zog : zdb.Spec (AC P) N := zdb.spec zdb.imp
theorem zph : zdc.Spec (AC P) N := zdc.spec zdc.imp
theorem zqm : zeh.Spec (AC P) N := zeh.spec zeh.imp
theorem zof : zc5.Spec (AC P) N := zc5.spec zc5.imp zct.imp
theorem zpi : zbw.Spec (AC P) N := zbw.spec zbw.imp zog zph zqm zof
theorem zpj : ze2.Spec (AC P) N := ze2.spec ze2.imp zpi
theorem zim : NextI (AC P) (N 298) := zcm.spec zcm.imp
theorem zh3 : LenI (AC P) (N 287) := zds.spec zds.imp zbr.imp
theorem zib : PowI (AC P) (N 299) := zcv.spec zcv.imp zh3
theorem zj0 : zc6.Spec (AC P) N := zc6.spec zc6.imp
theorem zkl : zc4.Spec (AC P) N := zc4.spec zc4.imp zj0
theorem zhg : zby.Spec (AC P) N := zby.spec zby.imp zb1.imp zcf.imp zcn.imp zbl.imp zb8.imp zcb.imp zb5.imp zcj.imp zb4.imp zb2.imp zcr.imp zcq.imp zci.imp zim zib zh3 zkl
theorem zgu : zbn.Spec (AC P) N := zbn.spec zbn.imp
theorem zhm : zb0.Spec (AC P) N := zb0.spec zb0.imp zpj zkq zhg zgu
theorem zi6 : zd4.Spec (AC P) N := zd4.spec zd4.imp zi5 zil zgj zhm
theorem znh : z7.Spec (AC P) N := z7.spec z7.imp
theorem zkr : zfh.Spec (AC P) N := zfh.spec zfh.imp
theorem zgw : zdp.Spec (AC P) N := zdp.spec zdp.imp zkr
theorem zgv : zdo.Spec (AC P) N := zdo.spec zdo.imp zkr
theorem zlm : zdg.Spec (AC P) N := zdg.spec zdg.imp zgv
theorem zfy : zdj.Spec (AC P) N := zdj.spec zdj.imp
theorem zll : zdf.Spec (AC P) N := zdf.spec zdf.imp zfy
theorem zms : zdy.Spec (AC P) N := zdy.spec zdy.imp zlm zll
theorem zln : zca.Spec (AC P) N := zca.spec zca.imp zgw zms
theorem zlh : zde.Spec (AC P) N := zde.spec zde.imp
theorem zin : zdt.Spec (AC P) N := zdt.spec zdt.imp zlh zgj
theorem zlp : zc3.Spec (AC P) N := zc3.spec zc3.imp zgv
theorem zlo : zc2.Spec (AC P) N := zc2.spec zc2.imp zfy
theorem zmt : zdz.Spec (AC P) N := zdz.spec zdz.imp zin zlp zlo
theorem zlq : zck.Spec (AC P) N := zck.spec zck.imp zmt zgw zin
theorem zlj : zdn.Spec (AC P) N := zdn.spec zdn.imp zgv
theorem zli : zdm.Spec (AC P) N := zdm.spec zdm.imp zfy
theorem zmr : zdx.Spec (AC P) N := zdx.spec zdx.imp zlj zli
theorem zlk : zcd.Spec (AC P) N := zcd.spec zcd.imp zmr zgw
theorem zng : zc9.Spec (AC P) N := zc9.spec zc9.imp
theorem zne : zcc.Spec (AC P) N := zcc.spec zcc.imp
theorem zgd : zdd.Spec (AC P) N := zdd.spec zdd.imp
theorem zoe : zch.Spec (AC P) N := zch.spec zch.imp zgd
theorem znf : z3.Spec (AC P) N := z3.spec z3.imp zng zne zgd zoe
theorem znc : zco.Spec (AC P) N := zco.spec zco.imp
theorem znd : zbx.Spec (AC P) N := zbx.spec zbx.imp znf znc zgd
theorem zpg : zer.Spec (AC P) N := zer.spec zer.imp zgd
theorem zjz : PutSpec (AC P) 3 (N 405) := zdh.spec zdh.imp
theorem zmh : zdq (AC P) (N 80) := zk.nil zk.imp
theorem znj : zdq (AC P) (N 81) := zen.nil zen.imp
theorem zmn : zdq (AC P) (N 82) := zl.nil zl.imp
theorem zlf : zle (AC P) 1 (N 83) := zeg.spec zeg.imp zfy
theorem zmo : zdq (AC P) (N 90) := zbd.nil zbd.imp
theorem znk : zdq (AC P) (N 92) := zbp.nil zbp.imp
theorem zmj : zdq (AC P) (N 93) := z9.nil z9.imp
theorem zlg : zdq (AC P) (N 94) := z4.nil z4.imp
theorem zni : zdq (AC P) (N 95) := zbo.nil zbo.imp
theorem zmi : zdq (AC P) (N 96) := z8.nil z8.imp
theorem zmp : zdq (AC P) (N 97) := zbe.nil zbe.imp
theorem zkt : zdq (AC P) (N 98) := zy.nil zy.imp
theorem zmm : zdq (AC P) (N 99) := zbc.nil zbc.imp
theorem zks : zdq (AC P) (N 100) := zx.nil zx.imp
theorem zml : zdq (AC P) (N 101) := zbb.nil zbb.imp
theorem zmk : zdq (AC P) (N 102) := zba.nil zba.imp
theorem zmq : ApartK (AC P) bagTx (N 62) := zd2.spl zd2.imp zmh znj zmn zlf zet.imp zz.imp zbt.imp zbf.imp zbs.imp zbg.imp zmo zbh.imp znk zmj zlg zni zmi zmp zkt zmm zks zml zmk
theorem zku : zle (AC P) 1 (N 396) := zcx.spec zcx.imp zjz zmq
theorem zkk : zcu.Spec (AC P) N := zcu.spec zcu.imp zi6 znh zln zhm zil zlq zlk znd zpg zgj zku
theorem zjo : zj.Spec (AC P) N := zj.spec zj.imp zi6 zkk zi5 zhm zil
theorem zrh (H : zb) (vs : List AVal) (h : AbsArgs H [] vs) : AC P 4 vs H fun v _ => v = .bool true := by
 cases h
 exact zjo H _ rfl
theorem zm9 (os : Os) (started : os.Started) (H : Type) (enc : TypeId × Value → H) :
  ReturnsInHanded {} Tryz.checked os 4 .any (Rows.swapNumbersSpec.pre6 enc Tryz.prog Tryz.f4 Rows.swapNumbersRow.domain false) (Rows.swapNumbersSpec.post enc Tryz.prog Tryz.f4 false true false false) := by
 refine returnsInHanded_of_change_sized (C := Tryz.checked) own started (by kernel_rfl) Tryz.func4
  (ChangeSpec.witness6 (enc := enc) (C := Tryz.checked) false ⟨#[], #[], []⟩ 8 (by kernel_rfl) (by kernel_rfl) (by kernel_rfl) (by kernel_rfl)) ?_
 intro W base args ds gs before hval hW _ hwt _
 exact law_contract (n := 6) (tb := 4) laid (by kernel_rfl) rfl (fun H ds h => by
  have h : ds.length = 0 := h
  match ds, h with
  | [], _ => rfl) (by kernel_rfl) (by kernel_rfl) (zl7 Tryz.func4 (by kernel_rfl) (by kernel_rfl)) zrh hval hW hwt
theorem swapNumbers : Rows.SwapNumbersSaid :=
 OpenClaim.holds_of_wide 4 Tryz.f4 rfl rfl rfl rfl rfl rfl rfl ⟨rfl, rfl, rfl, rfl, rfl⟩ rfl rfl rfl rfl rfl (by kernel_rfl) Tryz.func4 (by kernel_rfl)
  (of_decide_eq_true (by kernel_rfl)) (by unfold Func.isWrapper; first | (rw [if_pos (by decide +kernel)]; kernel_rfl) | (rw [if_neg (by decide +kernel)]; exact ⟨rfl, rfl⟩))
  (fun os started H enc _ => zm9 os started H enc)
#print axioms swapNumbers
end Go.Proofs.YtmabmeiangoepaaGreat
