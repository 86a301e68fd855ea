/- What is proved: the statement, joined. No conditions. -/
import Derived.Test.YtmabmeiangoepaaGreatRows
import Derived.Test.YtmabmeiangoepaaGreatQ6
import Derived.Test.YtmabmeiangoepaaGreatQ7
import Derived.Test.YtmabmeiangoepaaGreatQ9
import Derived.WalkKit
import Derived.ProofKit
import Derived.OpenShut
set_option linter.unusedVariables false
set_option linter.unusedSimpArgs false
set_option maxRecDepth 100000
namespace Go.Proofs.YtmabmeiangoepaaGreat
open Go.Ab Go.Ab.S08z
open Go.ChangeShapes Go.WideShapes Go.ChangeAt Go.RowKit
theorem own : ownKnob Tryz.prog.godebug = none := by kernel_rfl
theorem laid : laidOutB Tryz.prog = true := by kernel_rfl
theorem zna : zd4.Spec (AC P) N := zd4.spec zd4.imp
theorem zn8 : zek.Spec (AC P) N := zek.spec zek.imp
theorem zf2 : zp.Spec (AC P) N := zp.spec zp.imp zn8
theorem zhf : zbt.Spec (AC P) N := zbt.spec zbt.imp
theorem zg1 : zbl.Spec (AC P) N := zbl.spec zbl.imp zhf
theorem zkk : zez.Spec (AC P) N := zez.spec zez.imp zg1
theorem zkl : ze0.Spec (AC P) N := ze0.spec ze0.imp zf2 zkk
theorem zgi : zc7.Spec (AC P) N := zc7.spec zc7.imp
theorem zob : zda.Spec (AC P) N := zda.spec zda.imp
theorem zpc : zdb.Spec (AC P) N := zdb.spec zdb.imp
theorem zqg : zef.Spec (AC P) N := zef.spec zef.imp
theorem zoa : zc4.Spec (AC P) N := zc4.spec zc4.imp zcs.imp
theorem zpd : zbv.Spec (AC P) N := zbv.spec zbv.imp zob zpc zqg zoa
theorem zpe : zex.Spec (AC P) N := zex.spec zex.imp zpd
theorem zij : NextI (AC P) (N 298) := zcl.spec zcl.imp
theorem zh1 : LenI (AC P) (N 287) := zdr.spec zdr.imp zbq.imp
theorem zh9 : PowI (AC P) (N 299) := zct.spec zct.imp zh1
theorem zjv : zc5.Spec (AC P) N := zc5.spec zc5.imp
theorem zke : zc3.Spec (AC P) N := zc3.spec zc3.imp zjv
theorem zhe : zbx.Spec (AC P) N := zbx.spec zbx.imp zbz.imp zce.imp zcm.imp zbk.imp zb6.imp zb9.imp zb4.imp zci.imp zb3.imp zb0.imp zcq.imp zcp.imp zch.imp zij zh9 zh1 zke
theorem zgs : zbm.Spec (AC P) N := zbm.spec zbm.imp
theorem zjj : zb1.Spec (AC P) N := zb1.spec zb1.imp zpe zkk zhe zgs
theorem znc : zd5.Spec (AC P) N := zd5.spec zd5.imp zna zkl zgi zjj
theorem znb : z6.Spec (AC P) N := z6.spec z6.imp
theorem zkm : zfc.Spec (AC P) N := zfc.spec zfc.imp
theorem zgu : zdo.Spec (AC P) N := zdo.spec zdo.imp zkm
theorem zgt : zdn.Spec (AC P) N := zdn.spec zdn.imp zkm
theorem zlh : zdf.Spec (AC P) N := zdf.spec zdf.imp zgt
theorem zfw : zdh.Spec (AC P) N := zdh.spec zdh.imp
theorem zlg : zde.Spec (AC P) N := zde.spec zde.imp zfw
theorem zml : zdx.Spec (AC P) N := zdx.spec zdx.imp zlh zlg
theorem zli : zb8.Spec (AC P) N := zb8.spec zb8.imp zgu zml
theorem zlc : zdd.Spec (AC P) N := zdd.spec zdd.imp
theorem zik : zds.Spec (AC P) N := zds.spec zds.imp zlc zgi
theorem zlk : zc2.Spec (AC P) N := zc2.spec zc2.imp zgt
theorem zlj : zc1.Spec (AC P) N := zc1.spec zc1.imp zfw
theorem zmm : zdy.Spec (AC P) N := zdy.spec zdy.imp zik zlk zlj
theorem zll : zcj.Spec (AC P) N := zcj.spec zcj.imp zmm zgu zik
theorem zle : zdm.Spec (AC P) N := zdm.spec zdm.imp zgt
theorem zld : zdl.Spec (AC P) N := zdl.spec zdl.imp zfw
theorem zmk : zdw.Spec (AC P) N := zdw.spec zdw.imp zle zld
theorem zlf : zcc.Spec (AC P) N := zcc.spec zcc.imp zmk zgu
theorem zm9 : zc8.Spec (AC P) N := zc8.spec zc8.imp
theorem zm7 : zcb.Spec (AC P) N := zcb.spec zcb.imp
theorem zgc : zdc.Spec (AC P) N := zdc.spec zdc.imp
theorem zn9 : zcg.Spec (AC P) N := zcg.spec zcg.imp zgc
theorem zm8 : z0.Spec (AC P) N := z0.spec z0.imp zm9 zm7 zgc zn9
theorem zm5 : zcn.Spec (AC P) N := zcn.spec zcn.imp
theorem zm6 : zbw.Spec (AC P) N := zbw.spec zbw.imp zm8 zm5 zgc
theorem zpb : zen.Spec (AC P) N := zen.spec zen.imp zgc
theorem zju : PutSpec (AC P) 3 (N 405) := zdg.spec zdg.imp
theorem zma : zdp (AC P) (N 80) := zj.nil zj.imp
theorem zne : zdp (AC P) (N 81) := zel.nil zel.imp
theorem zmg : zdp (AC P) (N 82) := zk.nil zk.imp
theorem zla : zk9 (AC P) 1 (N 83) := zee.spec zee.imp zfw
theorem zmh : zdp (AC P) (N 90) := zbc.nil zbc.imp
theorem znf : zdp (AC P) (N 92) := zbo.nil zbo.imp
theorem zmc : zdp (AC P) (N 93) := z8.nil z8.imp
theorem zlb : zdp (AC P) (N 94) := z3.nil z3.imp
theorem znd : zdp (AC P) (N 95) := zbn.nil zbn.imp
theorem zmb : zdp (AC P) (N 96) := z7.nil z7.imp
theorem zmi : zdp (AC P) (N 97) := zbd.nil zbd.imp
theorem zko : zdp (AC P) (N 98) := zw.nil zw.imp
theorem zmf : zdp (AC P) (N 99) := zbb.nil zbb.imp
theorem zkn : zdp (AC P) (N 100) := zu.nil zu.imp
theorem zme : zdp (AC P) (N 101) := zba.nil zba.imp
theorem zmd : zdp (AC P) (N 102) := z9.nil z9.imp
theorem zmj : ApartK (AC P) bagTx (N 62) := zd0.spl zd0.imp zma zne zmg zla zep.imp zy.imp zbs.imp zbe.imp zbr.imp zbf.imp zmh zbg.imp znf zmc zlb znd zmb zmi zko zmf zkn zme zmd
theorem zkp : zk9 (AC P) 1 (N 396) := zcv.spec zcv.imp zju zmj
theorem zkd : zc0.Spec (AC P) N := zc0.spec zc0.imp znc znb zli zjj zkl zll zlf zm6 zpb zgi zkp
theorem swapTells_AC (H : zb) (vs : List AVal) (h : AbsArgs H [.sl 72 4 tyItem, .s] vs) : AC P 3 vs H fun v _ => v = .bool true := by
 obtain ⟨x, r, rfl, hx, a, r1, rfl, ⟨s, e1, _⟩, rfl⟩ := h
 cases e1
 obtain ⟨L, h1, h2, h3⟩ := dItems hx
 exact zkd x L s H _ h1 h2 h3 rfl
theorem zo9 (os : Os) (started : os.Started) (H : Type) (enc : TypeId × Value → H) :
  ReturnsInHanded {} Tryz.checked os 3 .any (Rows.swapTellsSpec.pre6 enc Tryz.prog Tryz.f3 Rows.swapTellsRow.domain false) (Rows.swapTellsSpec.post enc Tryz.prog Tryz.f3 false true false false) := by
 refine returnsInHanded_of_change_sized (C := Tryz.checked) own started (by kernel_rfl) Tryz.func3
  (ChangeSpec.witness6 (enc := enc) (C := Tryz.checked) false ⟨#[], #[.slice none 0 0, .string ⟨#[]⟩], []⟩ 8 (by kernel_rfl) (by kernel_rfl) (by kernel_rfl) (by kernel_rfl)) ?_
 intro W base args ds gs before hval hW _ hwt _
 exact law_contract (n := 6) (tb := 4) laid (by kernel_rfl) rfl (fun H ds h => by
  have h : ds.length = 2 := h
  match ds, h with
  | [a, b], _ => rfl) (by kernel_rfl) (by kernel_rfl) (zl0 Tryz.func3 (by kernel_rfl) (by kernel_rfl)) swapTells_AC hval hW hwt
theorem swapTells : Rows.SwapTellsSaid :=
 OpenClaim.holds_of_wide 3 Tryz.f3 rfl rfl rfl rfl rfl rfl rfl ⟨rfl, rfl, rfl, rfl, rfl⟩ rfl rfl rfl rfl rfl (by kernel_rfl) Tryz.func3 (by kernel_rfl)
  (of_decide_eq_true (by kernel_rfl)) (by unfold Func.isWrapper; first | (rw [if_pos (by decide +kernel)]; kernel_rfl) | (rw [if_neg (by decide +kernel)]; exact ⟨rfl, rfl⟩))
  (fun os started H enc _ => zo9 os started H enc)
#print axioms swapTells
end Go.Proofs.YtmabmeiangoepaaGreat
