/- What is proved: the statement, joined. No conditions. -/
import Derived.Test.YtljejbplojnnpaaGreatRows
import Derived.Test.YtljejbplojnnpaaGreatQ2
import Derived.Test.YtljejbplojnnpaaGreatQ7
import Derived.Test.YtljejbplojnnpaaGreatQ9
import Derived.WalkKit
import Derived.ProofKit
import Derived.OpenShut
set_option linter.unusedVariables false
set_option linter.unusedSimpArgs false
set_option maxRecDepth 100000
namespace Go.Proofs.YtljejbplojnnpaaGreat
open Go.Ab Go.Ab.B4
open Go.ChangeShapes Go.WideShapes Go.ChangeAt Go.RowKit
theorem own:ownKnob Tryz.prog.godebug=none:=by kernel_rfl
theorem ED:pI.Spec (AC P) N:=pI.spec pI.imp
theorem wT:iA.Spec (AC P) N:=iA.spec iA.imp
theorem I0:pk.Spec (AC P) N:=pk.spec pk.imp
theorem Iz:pj.Spec (AC P) N:=pj.spec pj.imp I0
theorem K7:kJ.Spec (AC P) N:=kJ.spec kJ.imp wT Iz
theorem KJ:ir.Spec (AC P) N:=ir.spec ir.imp K7
theorem JD:q9.Spec (AC P) N:=q9.spec q9.imp
theorem EM:pL.Spec (AC P) N:=pL.spec pL.imp wT JD
theorem Kz:qT.Spec (AC P) N:=qT.spec qT.imp wT
theorem K6:gB.Spec (AC P) N:=gB.spec gB.imp KJ EM Kz
theorem EG:iY.Spec (AC P) N:=iY.spec iY.imp
theorem I3:po.Spec (AC P) N:=po.spec po.imp
theorem I1:ie.Spec (AC P) N:=ie.spec ie.imp I3
theorem Cl:lZ.Spec (AC P) N:=lZ.spec lZ.imp I1
theorem K8:nd.Spec (AC P) N:=nd.spec nd.imp Cl
theorem KK:qW.Spec (AC P) N:=qW.spec qW.imp
theorem EO:nf.Spec (AC P) N:=nf.spec nf.imp wT KK
theorem zF:cM.Spec (AC P) N:=cM.spec cM.imp K6 EG K8 EO Cl
theorem JB:q8.Spec (AC P) N:=q8.spec q8.imp zC.imp
theorem zn:iq.Spec (AC P) N:=iq.spec iq.imp
theorem EP:pO.Spec (AC P) N:=pO.spec pO.imp wT
theorem BK:ou.Spec (AC P) N:=ou.spec ou.imp EP
theorem IH:iz.Spec (AC P) N:=iz.spec iz.imp zn BK
theorem IQ:ql.Spec (AC P) N:=ql.spec ql.imp zn BK
theorem IG:qi.Spec (AC P) N:=qi.spec qi.imp zn BK
theorem Cf:nC.Spec (AC P) N:=nC.spec nC.imp
theorem Kh:qL.Spec (AC P) N:=qL.spec qL.imp Cf
theorem Iy:kG.Spec (AC P) N:=kG.spec kG.imp Kh
theorem EK:et.Spec (AC P) N:=et.spec et.imp JB zn IH IQ IG zF Iy
theorem EF:hJ.Spec (AC P) N:=hJ.spec hJ.imp EM wT
theorem KG:lY.Spec (AC P) N:=lY.spec lY.imp
theorem KH:fW.Spec (AC P) N:=fW.spec fW.imp EF KG EO
theorem zE:nh.Spec (AC P) N:=nh.spec nh.imp EG Cl
theorem I2:pn.Spec (AC P) N:=pn.spec pn.imp
theorem Ku:pJ.Spec (AC P) N:=pJ.spec pJ.imp
theorem z7:gM.Spec (AC P) N:=gM.spec gM.imp (Hn P) KH zE I2 ml.imp Ku
theorem IP:qk.Spec (AC P) N:=qk.spec qk.imp Cf
theorem xO:ig.Spec (AC P) N:=ig.spec ig.imp
theorem El:pq.Spec (AC P) N:=pq.spec pq.imp EP
theorem IE:qh.Spec (AC P) N:=qh.spec qh.imp xO El
theorem I7:lE.Spec (AC P) N:=lE.spec lE.imp xO IE
theorem ID:qg.Spec (AC P) N:=qg.spec qg.imp xO
theorem I6:lD.Spec (AC P) N:=lD.spec lD.imp xO ID
theorem KI:iZ.Spec (AC P) N:=iZ.spec iZ.imp xO El I7 I6 EF
theorem BX:gF.Spec (AC P) N:=gF.spec gF.imp zE IP Cf KI
theorem Ce:nw.jJ (AC P) N:=nw.sT nw.imp
theorem Jk:pt.Spec (AC P) N:=pt.spec pt.imp
theorem Jj:pr.Spec (AC P) N:=pr.spec pr.imp
theorem zt:n7.Spec (AC P) N:=n7.spec n7.imp Jk Jj
theorem Jm:lF.Spec (AC P) N:=lF.spec lF.imp zt
theorem E3:ow.Spec (AC P) N:=ow.spec ow.imp
theorem Jl:py.Spec (AC P) N:=py.spec py.imp
theorem zo:nv.Spec (AC P) N:=nv.spec nv.imp Jm E3 Jl
theorem zu:kk.Spec (AC P) N:=kk.spec kk.imp ED zF EK z7 BX Ce zo
theorem EH:jx.Spec (AC P) N:=jx.spec jx.imp
theorem uR:lL.Spec (AC P) N:=lL.spec lL.imp
theorem xQ:na.Spec (AC P) N:=na.spec na.imp uR
theorem zw:n9.Spec (AC P) N:=n9.spec n9.imp xQ
theorem JX:pD.jJ (AC P) N:=pD.sT pD.imp xQ
theorem Kr:qP.Spec (AC P) N:=qP.spec qP.imp JX
theorem EE:jk.Bq (AC P) N:=jk.Qq jk.imp zw Kr
theorem z6:nB.Spec (AC P) N:=nB.spec nB.imp Ce
theorem Kb:mU.jJ (AC P) N:=mU.sT mU.imp xQ
theorem Ks:qQ.Spec (AC P) N:=qQ.spec qQ.imp z6 Kb
theorem E7:jN.Spec (AC P) N:=jN.spec jN.imp Ks zw z6
theorem JT:qu.jJ (AC P) N:=qu.sT qu.imp xQ
theorem Kq:qO.Spec (AC P) N:=qO.spec qO.imp JT
theorem E4:iW.Spec (AC P) N:=iW.spec iW.imp Kq zw
theorem BH:iy.Spec (AC P) N:=iy.spec iy.imp
theorem tW:iX.Spec (AC P) N:=iX.spec iX.imp
theorem KE:qU.Spec (AC P) N:=qU.spec qU.imp tW
theorem BI:nr.Spec (AC P) N:=nr.spec nr.imp KE
theorem Kw:eg.Spec (AC P) N:=eg.spec eg.imp BH BI
theorem JI:gJ.Spec (AC P) N:=gJ.spec gJ.imp
theorem KC:kK.Spec (AC P) N:=kK.spec kK.imp
theorem Kl:hE.Spec (AC P) N:=hE.spec hE.imp tW
theorem JH:gZ.Spec (AC P) N:=gZ.spec gZ.imp tW
theorem Km:qM.Spec (AC P) N:=qM.spec qM.imp JI KC tW Kl JH
theorem Kx:qS.Spec (AC P) N:=qS.spec qS.imp tW Km
theorem EC:pH.Spec (AC P) N:=pH.spec pH.imp tW
theorem Kn:qN.Spec (AC P) N:=qN.spec qN.imp tW
theorem Kk:gA.Spec (AC P) N:=gA.spec gA.imp Kx EC Kn
theorem xP:jw.Spec (AC P) N:=jw.spec jw.imp
theorem zA:nE.Spec (AC P) N:=nE.spec nE.imp tW
theorem JF:gI.Spec (AC P) N:=gI.spec gI.imp xP zA
theorem BZ:jM.Spec (AC P) N:=jM.spec jM.imp
theorem Ki:iI.Spec (AC P) N:=iI.spec iI.imp xP zA BZ
theorem JE:qA.Spec (AC P) N:=qA.spec qA.imp xP zA BZ
theorem EL:gh.Spec (AC P) N:=gh.spec gh.imp Kk xP JF Ki JE
theorem Kj:fV.Spec (AC P) N:=fV.spec fV.imp Kw EL
theorem IB:jQ (AC P) 9 (N 481):=tY.spec tY.imp
theorem I9:jQ (AC P) 3 (N 405):=tX.spec tX.imp
theorem IZ:r0 bR uC (AC P) (N 480):=uf.kC uf.imp IB I9
theorem IL:qa bR uC 10 (AC P) (N 475):=ot.kC ot.imp IZ
theorem En:jQ (AC P) 6 (N 130):=ud.spec ud.imp
theorem IC:jQ (AC P) 11 (N 207):=tZ.spec tZ.imp
theorem IM:r0 me lf (AC P) (N 473):=ub.kC ub.imp IL En IC
theorem IA:qa me lf 14 (AC P) (N 470):=om.kC om.imp IM
theorem BO:cH (AC P) (N 80):=tf.gf tf.gg
theorem Ca:cH (AC P) (N 81):=tq.gf tq.gg
theorem BU:cH (AC P) (N 82):=tn.gf tn.gg
theorem zp:ny.Spec (AC P) N:=ny.spec ny.imp
theorem Jc:jm (AC P) 1 (N 83):=kg.spec kg.imp zp
theorem Jh:cH (AC P) (N 84):=kh.gf kh.gg
theorem BL:cH (AC P) (N 85):=sX.gf sX.gg
theorem zz:nA.Spec (AC P) N:=nA.spec nA.imp uR
theorem E0:jm (AC P) 6 (N 86):=fg.spec fg.imp zz
theorem BP:cH (AC P) (N 87):=tg.gf tg.gg
theorem Ey:cH (AC P) (N 88):=fe.gf fe.gg
theorem zq:nz.Spec (AC P) N:=nz.spec nz.imp uR
theorem Je:jm (AC P) 2 (N 89):=eX.spec eX.imp zq
theorem zs:n6.Spec (AC P) N:=n6.spec n6.imp uR
theorem Jg:oD (AC P) 4 100000000 (N 90):=fa.spec fa.imp zs zt
theorem zr:n5.Spec (AC P) N:=n5.spec n5.imp uR
theorem Jf:jm (AC P) 8 (N 91):=eY.spec eY.imp zr
theorem Cb:cH (AC P) (N 92):=tr.gf tr.gg
theorem Es:cH (AC P) (N 93):=eV.gf eV.gg
theorem Jb:qo.Spec (AC P) N:=qo.spec qo.imp uR
theorem IV:jm (AC P) 6 (N 94):=eQ.spec eQ.imp Jb zo
theorem JL:cH (AC P) (N 95):=ff.gf ff.gg
theorem BQ:cH (AC P) (N 96):=th.gf th.gg
theorem BV:cH (AC P) (N 97):=tp.gf tp.gg
theorem BN:cH (AC P) (N 98):=td.gf td.gg
theorem BT:cH (AC P) (N 99):=tl.gf tl.gg
theorem BM:cH (AC P) (N 100):=ta.gf ta.gg
theorem BS:cH (AC P) (N 101):=tj.gf tj.gg
theorem BR:cH (AC P) (N 102):=ti.gf ti.gg
theorem JN:oU (AC P) kB (N 62):=mo.Qp mo.imp BO Ca BU Jc Jh BL E0 BP Ey Je Jg Jf Cb Es IV JL BQ BV BN BT BM BS BR
theorem Ja:rO me lf 14 kB (AC P) (N 453):=ns.kC ns.imp IA JN
theorem Eo:kU.Spec (AC P) N:=kU.spec kU.imp zu EH EE EK E7 E4 Kj zo Ja
theorem EA:mV.jJ (AC P) N:=mV.sT mV.imp
theorem Kt:qR.Spec (AC P) N:=qR.spec qR.imp EA
theorem E9:jO.Spec (AC P) N:=jO.spec jO.imp Kt
theorem E6:ox.Spec (AC P) N:=ox.spec ox.imp zz
theorem zv:n8.Spec (AC P) N:=n8.spec n8.imp uR
theorem JU:pG.Spec (AC P) N:=pG.spec pG.imp zv
theorem JV:qF.Spec (AC P) N:=qF.spec qF.imp E6 JU
theorem JP:pE.Spec (AC P) N:=pE.spec pE.imp
theorem Cd:ov.Spec (AC P) N:=ov.spec ov.imp E3 JP
theorem E8:mq.Spec (AC P) N:=mq.spec mq.imp zz
theorem JY:nb.Spec (AC P) N:=nb.spec nb.imp zv
theorem JZ:qH.Spec (AC P) N:=qH.spec qH.imp Cd E8 JY
theorem E5:pF.Spec (AC P) N:=pF.spec pF.imp zz
theorem JQ:qC.Spec (AC P) N:=qC.spec qC.imp zv
theorem JR:qD.Spec (AC P) N:=qD.spec qD.imp E5 JQ
theorem EB:gP.Spec (AC P) N:=gP.spec gP.imp EC tW
theorem JG:kV.Spec (AC P) N:=kV.spec kV.imp
theorem KA:fI.Spec (AC P) N:=fI.spec fI.imp EB JG zA
theorem Cg:oA.Spec (AC P) N:=oA.spec oA.imp xP BZ
theorem Ew:ij.Spec (AC P) N:=ij.spec ij.imp KA Cg
theorem K9:pK.Spec (AC P) N:=pK.spec pK.imp BH BI
theorem KB:fj.Spec (AC P) N:=fj.spec fj.imp BH BI K9 EB
theorem IU:ew.Spec (AC P) N:=ew.spec ew.imp Cg KB Ew
theorem E2:kW.Spec (AC P) N:=kW.spec kW.imp z6
theorem BJ:jQ (AC P) 4 (N 63):=ua.spec ua.imp
theorem Ji:r0 aQ nQ (AC P) (N 315):=qm.kC qm.imp BJ
theorem IW:qa aQ nQ 15 (AC P) (N 312):=mO.kC mO.imp Ji
theorem Er:cH (AC P) (N 83):=kg.gf kg.gg
theorem E1:oD (AC P) 1 140737488351232 (N 84):=kh.sT kh.imp xQ
theorem JK:jm (AC P) 3 (N 88):=fe.spec fe.imp zv
theorem Et:cH (AC P) (N 89):=eX.gf eX.gg
theorem Ev:cH (AC P) (N 90):=fa.gf fa.gg
theorem Eu:cH (AC P) (N 91):=eY.gf eY.gg
theorem JJ:qB.Spec (AC P) N:=qB.spec qB.imp uR
theorem Jd:jm (AC P) 7 (N 93):=eV.spec eV.imp JJ Cd
theorem Ep:cH (AC P) (N 94):=eQ.gf eQ.gg
theorem Ez:oD (AC P) 2 100000000 (N 95):=ff.spec ff.imp zw z6
theorem Cc:oU (AC P) im (N 62):=mo.Qr mo.imp BO Ca BU Er E1 BL E0 BP JK Et Ev Eu Cb Jd Ep Ez BQ BV BN BT BM BS BR
theorem Kg:rO aQ nQ 15 im (AC P) (N 307):=lH.kC lH.imp IW Cc
theorem IJ:jQ (AC P) 8 (N 131):=uc.spec uc.imp
theorem IX:r0 mC nG (AC P) (N 105):=ue.kC ue.imp En IJ
theorem IK:qa mC nG 13 (AC P) (N 76):=oq.kC oq.imp IX
theorem J9:rO mC nG 13 im (AC P) (N 43):=nt.kC nt.imp IK Cc
theorem JA:jm (AC P) 1 (N 35):=nu.kC nu.imp BJ Cc
theorem Em:mn.Spec (AC P) N:=mn.spec mn.imp zu EH JV EE z7 BX zE JZ E7 JR E4 Ew IU E2 Cd Cg Ce Kg J9 JA
theorem KF:gx.Spec (AC P) N:=gx.spec gx.imp Eo z7 E9 zE BX Em
theorem K0:fD.Spec (AC P) N:=fD.spec fD.imp
theorem J6:qz.Spec (AC P) N:=qz.spec qz.imp
theorem J2:qx.Spec (AC P) N:=qx.spec qx.imp
theorem Ke:qK.Spec (AC P) N:=qK.spec qK.imp J6 J2
theorem J8:lG.Spec (AC P) N:=lG.spec lG.imp Ke
theorem Kc:qJ.Spec (AC P) N:=qJ.spec qJ.imp
theorem J7:q7.Spec (AC P) N:=q7.spec q7.imp
theorem J5:qy.Spec (AC P) N:=qy.spec qy.imp J8 Kc J7
theorem K1:lI.Spec (AC P) N:=lI.spec lI.imp J5
theorem Ko:jP.Spec (AC P) N:=jP.spec jP.imp
theorem Ju:pB.Spec (AC P) N:=pB.spec pB.imp zq
theorem Js:pA.Spec (AC P) N:=pA.spec pA.imp zp
theorem JW:qG.Spec (AC P) N:=qG.spec qG.imp Ju Js
theorem Jw:jv.Spec (AC P) N:=jv.spec jv.imp zs JW
theorem Jv:pC.Spec (AC P) N:=pC.spec pC.imp zr
theorem Jt:qv.Spec (AC P) N:=qv.spec qv.imp Jw E6 Jv
theorem Jz:mQ.Spec (AC P) N:=mQ.spec mQ.imp zq
theorem Jx:mP.Spec (AC P) N:=mP.spec mP.imp zp
theorem Ka:qI.Spec (AC P) N:=qI.spec qI.imp zt Jz Jx
theorem J1:kj.Spec (AC P) N:=kj.spec kj.imp Ka zs zt
theorem J0:mR.Spec (AC P) N:=mR.spec mR.imp zr
theorem Jy:qw.Spec (AC P) N:=qw.spec qw.imp zo J1 E8 J0
theorem Jp:qs.Spec (AC P) N:=qs.spec qs.imp zq
theorem Jn:qp.Spec (AC P) N:=qp.spec qp.imp zp
theorem JS:qE.Spec (AC P) N:=qE.spec qE.imp Jp Jn
theorem Jr:jj.Spec (AC P) N:=jj.spec jj.imp JS zs
theorem Jq:qt.Spec (AC P) N:=qt.spec qt.imp zr
theorem Jo:qq.Spec (AC P) N:=qq.spec qq.imp Jr E5 Jq
theorem IY:y0 aQ v3 (AC P) (N 315):=qm.spec qm.imp BJ
theorem JM:cH (AC P) (N 86):=fg.gf fg.gg
theorem JO:oU (AC P) nY (N 62):=mo.Eg mo.imp BO Ca BU Er E1 BL JM BP Ey Et Ev Eu Cb Es Ep Ez BQ BV BN BT BM BS BR
theorem Kf:Bj aQ (AC P) (N 307):=lH.Eg lH.imp mO.imp IY JO
theorem II:qj.Spec (AC P) N:=qj.spec qj.imp zu Ko Jt zF Jy Jo EL E2 Kf
theorem I8:cF.Spec (AC P) N:=cF.spec cF.imp (P5 P) Eo EA E9 zu z7 Em KF K0 ED K1 II zF
theorem KS(H:a9):AC P 6 [] H λv _=>v= .bool true:=I8 H _ rfl
theorem Kv(os:Os)(started:os.Started)(H:Type)(enc:TypeId×Value->H):
  ReturnsInHanded {} Tryz.checked os 6 .any (Rows.rowNumbersSpec.pre6 enc Tryz.prog Tryz.f6 Rows.rowNumbersRow.domain false) (Rows.rowNumbersSpec.post enc Tryz.prog Tryz.f6 false true false false):=by
 refine returnsInHanded_of_change_sized (C:=Tryz.checked) own started (by kernel_rfl) Tryz.func6
  (ChangeSpec.witness6 (enc:=enc) (C:=Tryz.checked) false ⟨#[], #[],[]⟩ 8 (by kernel_rfl) (by kernel_rfl) (by kernel_rfl) (by kernel_rfl)) ?_
 intro W base args ds gs before a c _ b _;exact MA (tb:=4) (by kernel_rfl) rfl (λH=>rfl) (by kernel_rfl) (by kernel_rfl) (EV Tryz.func6 (by kernel_rfl) (by kernel_rfl)) KS c
theorem rowNumbers:Rows.RowNumbersSaid:=
 OpenClaim.holds_of_wide 6 Tryz.f6 rfl rfl rfl rfl rfl rfl rfl ⟨rfl,rfl,rfl,rfl,rfl⟩ rfl rfl rfl rfl rfl (by kernel_rfl) Tryz.func6 (by kernel_rfl)
  (of_decide_eq_true (by kernel_rfl)) (by unfold Func.isWrapper;first|(rw[if_pos (by decide +kernel)];kernel_rfl)|(rw[if_neg (by decide +kernel)];exact⟨rfl,rfl⟩))
  (λos started H enc _=>Kv os started H enc)
#print axioms rowNumbers
end Go.Proofs.YtljejbplojnnpaaGreat
