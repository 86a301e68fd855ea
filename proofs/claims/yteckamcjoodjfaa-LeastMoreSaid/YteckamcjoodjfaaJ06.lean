/- What is proved: the statement, joined. No conditions. -/
import Derived.Test.YteckamcjoodjfaaRows
import Derived.Test.YteckamcjoodjfaaQ6
import Derived.Test.YteckamcjoodjfaaQ7
import Derived.Test.YteckamcjoodjfaaQ9
import Derived.WalkKit
import Derived.ProofKit
import Derived.OpenShut
set_option linter.unusedVariables false
set_option linter.unusedSimpArgs false
set_option maxRecDepth 100000
namespace Go.Proofs.Yteckamcjoodjfaa
open Go.Ab Go.Ab.S06
open Go.ChangeShapes Go.WideShapes Go.ChangeAt Go.RowKit
theorem own : ownKnob Try.prog.godebug = none := by kernel_rfl
theorem laid : laidOutB Try.prog = true := by kernel_rfl
theorem zoa : zd4.Spec (AC P) N := zd4.spec zd4.imp
theorem zi5 : zde.Spec (AC P) N := zde.spec zde.imp
theorem zfn : zc5.Spec (AC P) N := zc5.spec zc5.imp
theorem zls : zc6.Spec (AC P) N := zc6.spec zc6.imp
theorem zm7 : zdu.Spec (AC P) N := zdu.spec zdu.imp zfn zls
theorem ziq : NextI (AC P) (N 298) := zb5.spec zb5.imp
theorem zh5 : LenI (AC P) (N 287) := zda.spec zda.imp zbe.imp
theorem zic : PowI (AC P) (N 299) := zce.spec zce.imp zh5
theorem zh7 : zdb.Spec (AC P) N := zdb.spec zdb.imp
theorem zmj : zdi.Spec (AC P) N := zdi.spec zdi.imp zh7
theorem zi0 : zca.Spec (AC P) N := zca.spec zca.imp zbn.imp zb9.imp zcg.imp zbd.imp zbx.imp zb0.imp zbu.imp zcd.imp zbs.imp zbo.imp zco.imp zcn.imp zcc.imp ziq zic zh5 zmj
theorem zh1 : zbk.Spec (AC P) N := zbk.spec zbk.imp
theorem zjp : zcp.Spec (AC P) N := zcp.spec zcp.imp zm7 zi0 zh1
theorem zgm : z3.Spec (AC P) N := z3.spec z3.imp
theorem zjr : zc1.Spec (AC P) N := zc1.spec zc1.imp
theorem zpb : zed.Spec (AC P) N := zed.spec zed.imp zjr zfn
theorem zf0 : zw.Spec (AC P) N := zw.spec zw.imp
theorem zeg : zl.Spec (AC P) N := zl.spec zl.imp zf0
theorem zmk : zdj.Spec (AC P) N := zdj.spec zdj.imp
theorem zko : zcw.Spec (AC P) N := zcw.spec zcw.imp zjr zmk
theorem zh6 : zb1.Spec (AC P) N := zb1.spec zb1.imp zpb zeg zko
theorem zgt : z9.Spec (AC P) N := z9.spec z9.imp
theorem zfk : zn.Spec (AC P) N := zn.spec zn.imp zbw.imp zb3.imp zbr.imp zbg.imp zb2.imp
theorem zkp : zcx.Spec (AC P) N := zcx.spec zcx.imp zh7
theorem zoc : zdh.Spec (AC P) N := zdh.spec zdh.imp
theorem zm8 : zdv.Spec (AC P) N := zdv.spec zdv.imp zkp zoc
theorem zqa : ze0.Spec (AC P) N := ze0.spec ze0.imp zgt zfk zm8
theorem zgl : z7.Spec (AC P) N := z7.spec z7.imp zcb.imp zcm.imp zb8.imp zbt.imp zcl.imp
theorem znb : zdn.Spec (AC P) N := zdn.spec zdn.imp
theorem zpd : zdc.Spec (AC P) N := zdc.spec zdc.imp zgl znb
theorem zjo : zds.Spec (AC P) N := zds.spec zds.imp zfn
theorem zpc : zbc.Spec (AC P) N := zbc.spec zbc.imp zh6 zqa zpd zjo
theorem zpe : zek.Spec (AC P) N := zek.spec zek.imp zpc
theorem zkh : zdf.Spec (AC P) N := zdf.spec zdf.imp zgm zpe
theorem zki : zc8.Spec (AC P) N := zc8.spec zc8.imp (AC_good P) zi5 zbq.imp zjp zcj.imp zkh
theorem zi4 : zb6.Spec (AC P) N := zb6.spec zb6.imp zfn
theorem zjq : zcz.Spec (AC P) N := zcz.spec zcz.imp (AC_good P) zi5 zbq.imp zjp zcj.imp zkh zi4
theorem zna : zdw.Spec (AC P) N := zdw.spec zdw.imp (AC_dis P) zoa zki zjq
theorem zm9 : zdm.Spec (AC P) N := zdm.spec zdm.imp
theorem zmg : zcv.Spec (AC P) N := zcv.spec zcv.imp zi4
theorem zqb : zeq.Spec (AC P) N := zeq.spec zeq.imp
theorem zmh : zdt.Spec (AC P) N := zdt.spec zdt.imp
theorem zgi : z4.Spec (AC P) N := z4.spec z4.imp
theorem zmi : zdq.Spec (AC P) N := zdq.spec zdq.imp
theorem zob : zb7.Spec (AC P) N := zb7.spec zb7.imp zh6 zgi zjo zeg zmi
theorem zkn : zu.Spec (AC P) N := zu.spec zu.imp (AC_dis P) zna zm9 zki zjq zmg zqb zmh zob
theorem leastMore_AC (H : za) (vs : List AVal) (h : AbsArgs H [.sl 56 6 tyLot, .sl 32 3 tyWant, .sl 24 2 tyPart, .i .i64, .i .i64, tyLot, .i .i64] vs) : AC P 5 vs H fun v _ => v = .bool true := by
 obtain ⟨x, r, rfl, hx, y, r1, rfl, hy, z, r2, rfl, hz, a, r3, rfl, ⟨n1, e1, _⟩, b, r4, rfl, ⟨n2, e2, _⟩, m, r5, rfl, ⟨cs1, rfl, hm⟩, c, r6, rfl, ⟨n3, e3, _⟩, rfl⟩ := h
 cases e1; cases e2; cases e3
 obtain ⟨L, h1, h2, h3⟩ := dLots hx
 obtain ⟨W, g1, g2⟩ := dWants hy
 obtain ⟨M, k1, k2⟩ := dParts hz
 obtain ⟨l, rfl, _⟩ := dLot (H := H) (p := cs1) hm
 exact CDis.call (AC_dis P) y g1 (zkn x y z L W M [] [] [] n1 n2 l n3 _ _ (h1.disown _) (g1.disown _) (k1.disown _) (zkz _ _) rfl)
theorem zpf (os : Os) (started : os.Started) (H : Type) (enc : TypeId × Value → H) :
  ReturnsInHanded {} Try.checked os 5 .any (Rows.leastMoreSpec.pre6 enc Try.prog Try.f5 Rows.leastMoreRow.domain false) (Rows.leastMoreSpec.post enc Try.prog Try.f5 false true false false) := by
 refine returnsInHanded_of_change_sized (C := Try.checked) own started (by kernel_rfl) Try.func5
  (ChangeSpec.witness6 (enc := enc) (C := Try.checked) false ⟨#[], #[.slice none 0 0, .slice none 0 0, .slice none 0 0, .int .i64 0, .int .i64 0, .agg #[.int .i64 0, .string ⟨#[]⟩, .int .i64 0, .int .i64 0, .int .i64 0, .bool false], .int .i64 0], []⟩ 8 (by kernel_rfl) (by kernel_rfl) (by kernel_rfl) (by kernel_rfl)) ?_
 intro W base args ds gs before hval hW _ hwt _
 exact law_contract (n := 6) (tb := 4) laid (by kernel_rfl) rfl (fun H ds h => by
  have h : ds.length = 7 := h
  match ds, h with
  | [a, b, c, d, e, f, g], _ => rfl) (by kernel_rfl) (by kernel_rfl) (zl6 Try.func5 (by kernel_rfl) (by kernel_rfl)) leastMore_AC hval hW hwt
theorem leastMore : Rows.LeastMoreSaid :=
 OpenClaim.holds_of_wide 5 Try.f5 rfl rfl rfl rfl rfl rfl rfl ⟨rfl, rfl, rfl, rfl, rfl⟩ rfl rfl rfl rfl rfl (by kernel_rfl) Try.func5 (by kernel_rfl)
  (of_decide_eq_true (by kernel_rfl)) (by unfold Func.isWrapper; first | (rw [if_pos (by decide +kernel)]; kernel_rfl) | (rw [if_neg (by decide +kernel)]; exact ⟨rfl, rfl⟩))
  (fun os started H enc _ => zpf os started H enc)
#print axioms leastMore
end Go.Proofs.Yteckamcjoodjfaa
