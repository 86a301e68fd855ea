/- What is proved: the statement, joined. No conditions. -/
import Derived.Test.YteckamcjoodjfaaRows
import Derived.Test.YteckamcjoodjfaaQ6
import Derived.Test.YteckamcjoodjfaaQ7
import Derived.Test.YteckamcjoodjfaaQ9
import Derived.WalkKit
import Derived.ProofKit
import Derived.OpenShut
set_option linter.unusedVariables false
set_option linter.unusedSimpArgs false
set_option maxRecDepth 100000
namespace Go.Proofs.Yteckamcjoodjfaa
open Go.Ab Go.Ab.S06
open Go.ChangeShapes Go.WideShapes Go.ChangeAt Go.RowKit
theorem own : ownKnob Try.prog.godebug = none := by kernel_rfl
theorem laid : laidOutB Try.prog = true := by kernel_rfl
theorem zpb : zei.Spec (AC P) N := zei.spec zei.imp
theorem zjg : zdp.Spec (AC P) N := zdp.spec zdp.imp
theorem zf0 : zdc.Spec (AC P) N := zdc.spec zdc.imp
theorem zl9 : zdd.Spec (AC P) N := zdd.spec zdd.imp
theorem zn4 : zd4.Spec (AC P) N := zd4.spec zd4.imp zf0 zl9
theorem ziz : NextI (AC P) (N 298) := zb3.spec zb3.imp
theorem zig : LenI (AC P) (N 287) := zdi.spec zdi.imp zbe.imp
theorem zin : PowI (AC P) (N 299) := zce.spec zce.imp zig
theorem zih : zdj.Spec (AC P) N := zdj.spec zdj.imp
theorem zna : zds.Spec (AC P) N := zds.spec zds.imp zih
theorem zjb : zb9.Spec (AC P) N := zb9.spec zb9.imp zbl.imp zb8.imp zcg.imp zbc.imp zbw.imp zby.imp zbs.imp zcd.imp zbq.imp zbm.imp zco.imp zcn.imp zcc.imp ziz zin zig zna
theorem zib : zbj.Spec (AC P) N := zbj.spec zbj.imp
theorem zj6 : zcp.Spec (AC P) N := zcp.spec zcp.imp zn4 zjb zib
theorem zgx : z4.Spec (AC P) N := z4.spec z4.imp
theorem zj8 : zc4.Spec (AC P) N := zc4.spec zc4.imp
theorem zql : zet.Spec (AC P) N := zet.spec zet.imp zj8 zf0
theorem zf6 : zw.Spec (AC P) N := zw.spec zw.imp
theorem zfz : zp.Spec (AC P) N := zp.spec zp.imp zf6
theorem znb : zdt.Spec (AC P) N := zdt.spec zdt.imp
theorem zk1 : zcx.Spec (AC P) N := zcx.spec zcx.imp zj8 znb
theorem zmf : zb4.Spec (AC P) N := zb4.spec zb4.imp zql zfz zk1
theorem zg4 : z7.Spec (AC P) N := z7.spec z7.imp
theorem zfy : zo.Spec (AC P) N := zo.spec zo.imp zbv.imp zb1.imp zbp.imp zbg.imp zb0.imp
theorem zk2 : zcy.Spec (AC P) N := zcy.spec zcy.imp zih
theorem zpc : zdr.Spec (AC P) N := zdr.spec zdr.imp
theorem zn8 : zd8.Spec (AC P) N := zd8.spec zd8.imp zk2 zpc
theorem zrm : zfj.Spec (AC P) N := zfj.spec zfj.imp zg4 zfy zn8
theorem zgw : z5.Spec (AC P) N := z5.spec z5.imp zcb.imp zcm.imp zb7.imp zbr.imp zcl.imp
theorem zob : zdy.Spec (AC P) N := zdy.spec zdy.imp
theorem zqn : zdo.Spec (AC P) N := zdo.spec zdo.imp zgw zob
theorem zo8 : zec.Spec (AC P) N := zec.spec zec.imp zf0
theorem zqm : zbb.Spec (AC P) N := zbb.spec zbb.imp zmf zrm zqn zo8
theorem zqo : ze0.Spec (AC P) N := ze0.spec ze0.imp zqm
theorem zks : zdq.Spec (AC P) N := zdq.spec zdq.imp zgx zqo
theorem zkt : zdk.Spec (AC P) N := zdk.spec zdk.imp (AC_good P) zjg zbo.imp zj6 zci.imp zks
theorem zn3 : zb6.Spec (AC P) N := zb6.spec zb6.imp zf0
theorem zj7 : zc2.Spec (AC P) N := zc2.spec zc2.imp (AC_good P) zjg zbo.imp zj6 zci.imp zks zn3
theorem zoa : zd9.Spec (AC P) N := zd9.spec zd9.imp (AC_dis P) zpb zkt zj7
theorem zn9 : zdx.Spec (AC P) N := zdx.spec zdx.imp
theorem zi0 : ze8.Spec (AC P) N := ze8.spec ze8.imp
theorem zjh : zd2.Spec (AC P) N := zd2.spec zd2.imp zi0
theorem zm8 : zdn.Spec (AC P) N := zdn.spec zdn.imp zjh
theorem zi1 : zdl.Spec (AC P) N := zdl.spec zdl.imp zi0
theorem zmb : zc9.Spec (AC P) N := zc9.spec zc9.imp zi1
theorem zi2 : zdm.Spec (AC P) N := zdm.spec zdm.imp zi0
theorem zmc : zda.Spec (AC P) N := zda.spec zda.imp zi2
theorem zjf : zc1.Spec (AC P) N := zc1.spec zc1.imp
theorem zn6 : zd6.Spec (AC P) N := zd6.spec zd6.imp zjf
theorem zn5 : zd5.Spec (AC P) N := zd5.spec zd5.imp zjf
theorem zqj : zb5.Spec (AC P) N := zb5.spec zb5.imp zn6 zn5
theorem zn7 : zd7.Spec (AC P) N := zd7.spec zd7.imp
theorem zqk : zes.Spec (AC P) N := zes.spec zes.imp zn7
theorem zm7 : zde.Spec (AC P) N := zde.spec zde.imp zqk
theorem zma : zc5.Spec (AC P) N := zc5.spec zc5.imp
theorem zpa : zu.Spec (AC P) N := zu.spec zu.imp zqj zm7 zma
theorem zkr : zdv.Spec (AC P) N := zdv.spec zdv.imp zpa
theorem zqi : zd3.Spec (AC P) N := zd3.spec zd3.imp zkr
theorem zrl : zem.Spec (AC P) N := zem.spec zem.imp
theorem zo9 : zc3.Spec (AC P) N := zc3.spec zc3.imp zkr zrl
theorem zk0 : zcs.Spec (AC P) N := zcs.spec zcs.imp
theorem zm9 : zc7.Spec (AC P) N := zc7.spec zc7.imp zjh
theorem zmd : zcz.Spec (AC P) N := zcz.spec zcz.imp zi1
theorem zme : zc0.Spec (AC P) N := zc0.spec zc0.imp zi2
theorem zkz : zcr.Spec (AC P) N := zcr.spec zcr.imp (AC_dis P) zoa zn9 zm8 zmb zmc zkt zqi zj7 zo9 zk0 zm9 zmd zme
theorem leastDays_AC (H : za) (vs : List AVal) (h : AbsArgs H [.sl 56 6 tyLot, .sl 32 3 tyWant, .sl 24 2 tyPart, .i .i64, .i .i64] vs) : AC P 3 vs H fun v _ => v = .bool true := by
 obtain ⟨x, r, rfl, hx, y, r1, rfl, hy, z, r2, rfl, hz, a, r3, rfl, ⟨n1, e1, _⟩, b, r4, rfl, ⟨n2, e2, _⟩, rfl⟩ := h
 cases e1; cases e2
 obtain ⟨L, h1, h2, h3⟩ := dLots hx
 obtain ⟨W, g1, g2⟩ := dWants hy
 obtain ⟨M, k1, k2⟩ := dParts hz
 exact zkz x y z L W M [] [] [] n1 n2 H _ h1 g1 k1 rfl
theorem zqp (os : Os) (started : os.Started) (H : Type) (enc : TypeId × Value → H) :
  ReturnsInHanded {} Try.checked os 3 .any (Rows.leastDaysSpec.pre6 enc Try.prog Try.f3 Rows.leastDaysRow.domain false) (Rows.leastDaysSpec.post enc Try.prog Try.f3 false true false false) := by
 refine returnsInHanded_of_change_sized (C := Try.checked) own started (by kernel_rfl) Try.func3
  (ChangeSpec.witness6 (enc := enc) (C := Try.checked) false ⟨#[], #[.slice none 0 0, .slice none 0 0, .slice none 0 0, .int .i64 0, .int .i64 0], []⟩ 8 (by kernel_rfl) (by kernel_rfl) (by kernel_rfl) (by kernel_rfl)) ?_
 intro W base args ds gs before hval hW _ hwt _
 exact law_contract (n := 6) (tb := 4) laid (by kernel_rfl) rfl (fun H ds h => by
  have h : ds.length = 5 := h
  match ds, h with
  | [a, b, c, d, e], _ => rfl) (by kernel_rfl) (by kernel_rfl) (zmv Try.func3 (by kernel_rfl) (by kernel_rfl)) leastDays_AC hval hW hwt
theorem leastDays : Rows.LeastDaysSaid :=
 OpenClaim.holds_of_wide 3 Try.f3 rfl rfl rfl rfl rfl rfl rfl ⟨rfl, rfl, rfl, rfl, rfl⟩ rfl rfl rfl rfl rfl (by kernel_rfl) Try.func3 (by kernel_rfl)
  (of_decide_eq_true (by kernel_rfl)) (by unfold Func.isWrapper; first | (rw [if_pos (by decide +kernel)]; kernel_rfl) | (rw [if_neg (by decide +kernel)]; exact ⟨rfl, rfl⟩))
  (fun os started H enc _ => zqp os started H enc)
#print axioms leastDays
end Go.Proofs.Yteckamcjoodjfaa
