/- What is proved: a part of the way to the statement: Rref16. No conditions. -/
import Derived.Test.YtljejbplojnnpaaGreatQ3
import Derived.Test.YtljejbplojnnpaaGreatQ6
import Derived.Test.YtljejbplojnnpaaGreatRows
set_option linter.unusedVariables false
set_option linter.unusedSimpArgs false
namespace Go.Ab
@[simp] def zbw.k1 (C : CSem) (N : zN) (Q : zQ) (Y1 : zL) (c b a : AVal) (h : za) : Prop :=
 B.al a (B.pv (V.zg 5 a) fun d =>
  B.pv (V.zj d) fun e =>
  B.pv (V.bin .lss b e) fun f =>
  B.cond f
  (B.al a (B.pv (V.zg 5 a) fun g =>
  B.pv (V.idxS 8 g b) fun i =>
  B.ldn h i 8 fun j =>
  B.call C (N 463) [j] h fun k h =>
  B.newO h (zcr [(0, some 2, k)] (repL 1 [.nils, .nils])) fun l h =>
  B.appW h 2 48 c (.sl l 0 0 1 2 1) fun m h =>
  B.pv (V.bin .add b (.int .i64 1)) fun n =>
  Y1 [m, n] h))
  (Q c h))
@[simp] def zbw.l2 (C : CSem) (N : zN) (Q : zQ) (a : AVal) : zG
 | [b, c], h, Y1 => zbw.k1 C N Q Y1 b c a h
 | _, _, _ => False
@[simp] def zbw.k3 (C : CSem) (N : zN) (Q : zQ) (Y2 : zL) (c b a : AVal) (h : za) : Prop :=
 B.al a (B.pv (V.zg 4 a) fun d =>
  B.pv (V.zj d) fun e =>
  B.pv (V.bin .lss b e) fun f =>
  B.cond f
  (B.al a (B.pv (V.zg 4 a) fun g =>
  B.pv (V.idxS 6 g b) fun i =>
  B.ldn h i 6 fun j =>
  B.call C (N 464) [j] h fun k h =>
  B.newO h (zcr [(0, some 2, k)] (repL 1 [.nils, .nils])) fun l h =>
  B.appW h 2 48 c (.sl l 0 0 1 2 1) fun m h =>
  B.pv (V.bin .add b (.int .i64 1)) fun n =>
  Y2 [m, n] h))
  (ze (zbw.l2 C N Q a) [c, (.int .i64 0)] h))
@[simp] def zbw.l4 (C : CSem) (N : zN) (Q : zQ) (a : AVal) : zG
 | [b, c], h, Y2 => zbw.k3 C N Q Y2 b c a h
 | _, _, _ => False
@[simp] def zbw.k5 (C : CSem) (N : zN) (Q : zQ) (Y3 : zL) (c b a : AVal) (h : za) : Prop :=
 B.al a (B.pv (V.zg 3 a) fun d =>
  B.pv (V.zj d) fun e =>
  B.pv (V.bin .lss b e) fun f =>
  B.cond f
  (B.al a (B.pv (V.zg 3 a) fun g =>
  B.pv (V.idxS 4 g b) fun i =>
  B.ldn h i 4 fun j =>
  B.call C (N 465) [j] h fun k h =>
  B.newO h (zcr [(0, some 2, k)] (repL 1 [.nils, .nils])) fun l h =>
  B.appW h 2 48 c (.sl l 0 0 1 2 1) fun m h =>
  B.pv (V.bin .add b (.int .i64 1)) fun n =>
  Y3 [m, n] h))
  (ze (zbw.l4 C N Q a) [c, (.int .i64 0)] h))
@[simp] def zbw.l6 (C : CSem) (N : zN) (Q : zQ) (a : AVal) : zG
 | [b, c], h, Y3 => zbw.k5 C N Q Y3 b c a h
 | _, _, _ => False
@[simp] def zbw.k7 (C : CSem) (N : zN) (Q : zQ) (a : AVal) (h : za) : Prop :=
 B.al a (B.pv (V.zg 0 a) fun b =>
  B.al a (B.pv (V.zg 2 a) fun c =>
  B.al a (B.pv (V.zg 1 a) fun d =>
  B.call C (N 466) [b, (.int .i64 2)] h fun e h =>
  B.call C (N 466) [c, (.int .i64 8)] h fun f h =>
  B.call C (N 466) [d, (.int .i64 8)] h fun g h =>
  B.newO h (zcr [(0, none, (.int .u8 42)), (1, none, (.int .u8 100)), (2, none, (.int .u8 97)), (3, none, (.int .u8 121))] (repL 4 [.int .u8 0])) fun i h =>
  B.conv h (.sl i 0 0 4 1 4) fun j =>
  B.pv (A.bld [(0, none, j), (1, none, e)] [.nils, .nils]) fun k =>
  B.newO h (zcr [(0, none, (.int .u8 42)), (1, none, (.int .u8 108)), (2, none, (.int .u8 105)), (3, none, (.int .u8 110)), (4, none, (.int .u8 101))] (repL 5 [.int .u8 0])) fun l h =>
  B.conv h (.sl l 0 0 5 1 5) fun m =>
  B.pv (A.bld [(0, none, m), (1, none, f)] [.nils, .nils]) fun n =>
  B.newO h (zcr [(0, none, (.int .u8 42)), (1, none, (.int .u8 108)), (2, none, (.int .u8 111)), (3, none, (.int .u8 116))] (repL 4 [.int .u8 0])) fun o h =>
  B.conv h (.sl o 0 0 4 1 4) fun p =>
  B.pv (A.bld [(0, none, p), (1, none, g)] [.nils, .nils]) fun q =>
  B.newO h (zcr [(0, some 2, k), (2, some 2, n), (4, some 2, q)] (repL 3 [.nils, .nils])) fun r h =>
  ze (zbw.l6 C N Q a) [(.sl r 0 0 3 2 3), (.int .i64 0)] h)))
@[simp] def zbw.k8 (C : CSem) (N : zN) (Q : zQ) (a : AVal) (h : za) : Prop :=
 B.pv (V.zcd 0 6 a) fun b =>
  B.call C (N 467) [b] h fun c h =>
  B.pv (V.un .not c) fun d =>
  B.cond d
  (Q .nils h)
  (zbw.k7 C N Q a h)
@[simp] def zbw.cps (C : CSem) (N : zN) (a : AVal) (h : za) (Q : zQ) : Prop :=
 B.pv (A.boxN 6 a) fun b =>
  zbw.k8 C N Q b h
def zbw.Imp (C : CSem) (N : zN) : Prop := im1 C (N 449) (zbw.cps C N)
@[simp] def zbe.k1 (C : CSem) (N : zN) (Q : zQ) (c a : AVal) (h : za) : Prop :=
 B.ldn h c 6 fun b =>
  B.pv (V.setN 0 6 b a) fun a =>
  B.pv (oneOf (ze9 (V.zcd 0 6 a) (ze9 (some (.int .i64 0)) (some [])))) fun v => Q v h
@[simp] def zbe.k2 (C : CSem) (N : zN) (Q : zQ) (Y1 : zL) (v4 t d b c : AVal) (h : za) : Prop :=
 B.pv (V.zj d) fun u =>
  B.pv (V.bin .lss b u) fun w =>
  B.cond w
  (B.pv (V.idxS 2 d b) fun x =>
  B.pv (V.fieldAddr 0 x) fun y =>
  B.ld h y fun z =>
  B.pv (V.idxS 2 t b) fun aa =>
  B.pv (V.fieldAddr 0 aa) fun ab =>
  B.ld h ab fun ac =>
  B.zda h z fun ad =>
  B.zda h ac fun ae =>
  B.pv (V.bin .neq ad ae) fun a =>
  B.gd h a false (fun K => K d h) fun af h =>
  B.gd h a false (fun K => K b h) fun e h =>
  B.gd h a false (fun K => B.pv (V.idxS 2 af e) fun v => K v h) fun f h =>
  B.gd h a false (fun K => B.pv (V.fieldAddr 1 f) fun v => K v h) fun g h =>
  B.gd h a false (fun K => B.ld h g fun v => K v h) fun i h =>
  B.gd h a false (fun K => K t h) fun j h =>
  B.gd h a false (fun K => K b h) fun k h =>
  B.gd h a false (fun K => B.pv (V.idxS 2 j k) fun v => K v h) fun l h =>
  B.gd h a false (fun K => B.pv (V.fieldAddr 1 l) fun v => K v h) fun m h =>
  B.gd h a false (fun K => B.ld h m fun v => K v h) fun n h =>
  B.gd h a false (fun K => B.zda h i fun v => K v h) fun o h =>
  B.gd h a false (fun K => B.zda h n fun v => K v h) fun p h =>
  B.gd h a false (fun K => B.pv (V.bin .neq o p) fun v => K v h) fun q h =>
  B.pick a (.bool true) q fun r =>
  B.cond r
  (B.pv (A.bld [] [.int .i64 0, .int .i64 0, .int .i64 0, .nils, .nils, .nils]) fun s =>
  B.pv (V.setN 0 6 s c) fun c =>
  B.pv (oneOf (ze9 (V.zcd 0 6 c) (ze9 (some (.int .i64 4)) (some [])))) fun v => Q v h)
  (B.pv (V.bin .add b (.int .i64 1)) fun ag =>
  Y1 [ag, c] h))
  (zbe.k1 C N Q v4 c h)
@[simp] def zbe.l3 (C : CSem) (N : zN) (Q : zQ) (a b c : AVal) : zG
 | [d, e], h, Y1 => zbe.k2 C N Q Y1 a b c d e h
 | _, _, _ => False
@[simp] def zbe.k4 (C : CSem) (N : zN) (Q : zQ) (n d c b : AVal) (h : za) : Prop :=
 B.pv (V.zj c) fun e =>
  B.pv (V.bin .eql e (.int .i64 0)) fun a =>
  B.gd h a false (fun K => K c h) fun f h =>
  B.gd h a false (fun K => B.pv (V.zj f) fun v => K v h) fun g h =>
  B.gd h a false (fun K => K d h) fun i h =>
  B.gd h a false (fun K => B.pv (V.zj i) fun v => K v h) fun j h =>
  B.gd h a false (fun K => B.pv (V.bin .neq g j) fun v => K v h) fun k h =>
  B.pick a (.bool true) k fun l =>
  B.cond l
  (B.pv (A.bld [] [.int .i64 0, .int .i64 0, .int .i64 0, .nils, .nils, .nils]) fun m =>
  B.pv (V.setN 0 6 m b) fun b =>
  B.pv (oneOf (ze9 (V.zcd 0 6 b) (ze9 (some (.int .i64 4)) (some [])))) fun v => Q v h)
  (ze (zbe.l3 C N Q n d c) [(.int .i64 0), b] h)
@[simp] def zbe.k5 (C : CSem) (N : zN) (Q : zQ) (Y2 : zL) (e g i c d : AVal) (h : za) : Prop :=
 B.pv (V.zj e) fun j =>
  B.pv (V.bin .lss c j) fun k =>
  B.cond k
  (B.pv (V.bin .gtr c (.int .i64 0)) fun a =>
  B.gd h a true (fun K => K e h) fun l h =>
  B.gd h a true (fun K => K c h) fun m h =>
  B.gd h a true (fun K => B.pv (V.bin .sub m (.int .i64 1)) fun v => K v h) fun n h =>
  B.gd h a true (fun K => B.pv (V.idxS 2 l n) fun v => K v h) fun o h =>
  B.gd h a true (fun K => B.pv (V.fieldAddr 0 o) fun v => K v h) fun p h =>
  B.gd h a true (fun K => B.ld h p fun v => K v h) fun q h =>
  B.gd h a true (fun K => K e h) fun r h =>
  B.gd h a true (fun K => K c h) fun s h =>
  B.gd h a true (fun K => B.pv (V.idxS 2 r s) fun v => K v h) fun t h =>
  B.gd h a true (fun K => B.pv (V.fieldAddr 0 t) fun v => K v h) fun u h =>
  B.gd h a true (fun K => B.ld h u fun v => K v h) fun w h =>
  B.gd h a true (fun K => B.zda h q fun v => K v h) fun x h =>
  B.gd h a true (fun K => B.zda h w fun v => K v h) fun y h =>
  B.gd h a true (fun K => B.pv (V.bin .geq x y) fun v => K v h) fun z h =>
  B.pick a z (.bool false) fun aa =>
  B.cond aa
  (B.pv (A.bld [] [.int .i64 0, .int .i64 0, .int .i64 0, .nils, .nils, .nils]) fun ab =>
  B.pv (V.setN 0 6 ab d) fun d =>
  B.pv (oneOf (ze9 (V.zcd 0 6 d) (ze9 (some (.int .i64 4)) (some [])))) fun v => Q v h)
  (B.pv (V.idxS 2 e c) fun ac =>
  B.pv (V.fieldAddr 0 ac) fun ad =>
  B.ld h ad fun ae =>
  B.pv (V.zj ae) fun af =>
  B.pv (V.bin .gtr af (.int .i64 0)) fun b =>
  B.gd h b true (fun K => K e h) fun ag h =>
  B.gd h b true (fun K => K c h) fun ah h =>
  B.gd h b true (fun K => B.pv (V.idxS 2 ag ah) fun v => K v h) fun ai h =>
  B.gd h b true (fun K => B.pv (V.fieldAddr 0 ai) fun v => K v h) fun aj h =>
  B.gd h b true (fun K => B.ld h aj fun v => K v h) fun ak h =>
  B.gd h b true (fun K => B.pv (V.idxS 1 ak (.int .i64 0)) fun v => K v h) fun al h =>
  B.gd h b true (fun K => B.ld h al fun v => K v h) fun am h =>
  B.gd h b true (fun K => B.pv (V.bin .eql am (.int .u8 97)) fun v => K v h) fun an h =>
  B.pick b an (.bool false) fun ao =>
  B.cond ao
  (B.pv (V.bin .add c (.int .i64 1)) fun f =>
  Y2 [i, f, d] h)
  (B.pv (V.idxS 2 e c) fun ap =>
  B.ldn h ap 2 fun aq =>
  B.call C (N 469) [g, aq] h fun ar h =>
  B.pv (V.un .not ar) fun au =>
  B.cond au
  (B.pv (A.bld [] [.int .i64 0, .int .i64 0, .int .i64 0, .nils, .nils, .nils]) fun av =>
  B.pv (V.setN 0 6 av d) fun d =>
  B.pv (oneOf (ze9 (V.zcd 0 6 d) (ze9 (some (.int .i64 4)) (some [])))) fun v => Q v h)
  (B.pv (V.idxS 2 e c) fun aw =>
  B.ldn h aw 2 fun ax =>
  B.newO h (zcr [(0, some 2, ax)] (repL 1 [.nils, .nils])) fun ay h =>
  B.appW h 2 48 i (.sl ay 0 0 1 2 1) fun az h =>
  B.pv (V.bin .add c (.int .i64 1)) fun f =>
  Y2 [az, f, d] h))))
  (B.ldn h g 6 fun ba =>
  B.call C (N 449) [ba] h fun bb h =>
  zbe.k4 C N Q g i bb d h)
@[simp] def zbe.l6 (C : CSem) (N : zN) (Q : zQ) (a b : AVal) : zG
 | [c, d, e], h, Y2 => zbe.k5 C N Q Y2 a b c d e h
 | _, _, _ => False
@[simp] def zbe.k7 (C : CSem) (N : zN) (Q : zQ) (b c : AVal) (h : za) : Prop :=
 B.pv (A.bld [] [.int .i64 0, .int .i64 0, .int .i64 0, .nils, .nils, .nils]) fun d =>
  B.newO h (some [.int .i64 0, .int .i64 0, .int .i64 0, .nils, .nils, .nils]) fun a h =>
  B.stn h (.ptr a 0 0) 6 d fun h =>
  ze (zbe.l6 C N Q b (.ptr a 0 0)) [.nils, (.int .i64 0), c] h
@[simp] def zbe.cps (C : CSem) (N : zN) (a : AVal) (h : za) (Q : zQ) : Prop :=
 zbe.k7 C N Q a (.agg [.int .i64 0, .int .i64 0, .int .i64 0, .nils, .nils, .nils]) h
def zbe.Imp (C : CSem) (N : zN) : Prop := im1 C (N 452) (zbe.cps C N)
@[simp] def zdh.k1 (C : CSem) (N : zN) (Q : zQ) (w : AVal) (h : za) : Prop :=
 B.pv (A.boxN 8 w) fun a =>
  B.al a (B.pv (V.zg 1 a) fun x =>
  B.al a (B.pv (V.zg 2 a) fun y =>
  B.al a (B.pv (V.zg 3 a) fun b =>
  B.al a (B.pv (V.zg 4 a) fun c =>
  B.pv (V.toInt .u8 c) fun d =>
  B.al a (B.pv (V.zg 5 a) fun e =>
  B.al a (B.pv (V.zg 6 a) fun f =>
  B.pv (V.bin .add f (.int .i64 1)) fun g =>
  B.al a (B.pv (V.zg 7 a) fun i =>
  B.call C (N 59) [x] h fun z h =>
  B.call C (N 466) [y, (.int .i64 4)] h fun v9 h =>
  B.call C (N 466) [b, (.int .i64 2)] h fun j h =>
  B.call C (N 466) [g, (.int .i64 2)] h fun k h =>
  B.call C (N 59) [i] h fun l h =>
  B.newO h (zcr [(0, none, d), (1, none, e)] (repL 2 [.int .u8 0])) fun m h =>
  B.newO h (zcr [(0, none, z), (1, none, v9), (2, none, j), (3, none, (.sl m 0 0 2 1 2)), (4, none, k), (5, none, l)] (repL 6 [.nils])) fun n h =>
  B.call C (N 471) [(.sl n 0 0 6 1 6)] h fun o h =>
  B.newO h (zcr [(0, none, (.int .u8 111))] (repL 1 [.int .u8 0])) fun p h =>
  B.conv h (.sl p 0 0 1 1 1) fun q =>
  B.al a (B.pv (V.zg 0 a) fun r =>
  B.call C (N 466) [r, (.int .i64 8)] h fun s h =>
  B.appW h 1 1 q s fun t h =>
  B.pv (A.bld [(0, none, t), (1, none, o)] [.nils, .nils]) fun u =>
  B.pv (V.setN 0 2 u (.agg [.nils, .nils])) fun c2 =>
  B.pv (oneOf (ze9 (V.zcd 0 2 c2) (some []))) fun v => Q v h))))))))
@[simp] def zdh.cps (C : CSem) (N : zN) (a : AVal) (h : za) (Q : zQ) : Prop :=
 zdh.k1 C N Q a h
def zdh.Imp (C : CSem) (N : zN) : Prop := im1 C (N 463) (zdh.cps C N)
@[simp] def zb9.k1 (C : CSem) (N : zN) (Q : zQ) (s a b : AVal) (h : za) : Prop :=
 B.al a (B.pv (V.zg 1 a) fun t =>
  B.al a (B.al a (B.pv (V.zg 2 a) fun c =>
  B.al a (B.al a (B.pv (V.zg 3 a) fun d =>
  B.al a (B.pv (V.zg 4 a) fun e =>
  B.call C (N 59) [t] h fun u h =>
  B.call C (N 466) [c, (.int .i64 2)] h fun f h =>
  B.call C (N 466) [d, (.int .i64 2)] h fun g h =>
  B.call C (N 466) [e, (.int .i64 4)] h fun i h =>
  B.newO h (zcr [(0, none, s)] (repL 1 [.int .u8 0])) fun j h =>
  B.newO h (zcr [(0, none, u), (1, none, f), (2, none, g), (3, none, i), (4, none, (.sl j 0 0 1 1 1))] (repL 5 [.nils])) fun k h =>
  B.call C (N 471) [(.sl k 0 0 5 1 5)] h fun l h =>
  B.newO h (zcr [(0, none, (.int .u8 108))] (repL 1 [.int .u8 0])) fun m h =>
  B.conv h (.sl m 0 0 1 1 1) fun n =>
  B.al a (B.pv (V.zg 0 a) fun o =>
  B.call C (N 466) [o, (.int .i64 8)] h fun p h =>
  B.appW h 1 1 n p fun q h =>
  B.pv (A.bld [(0, none, q), (1, none, l)] [.nils, .nils]) fun r =>
  B.pv (V.setN 0 2 r b) fun b =>
  B.pv (oneOf (ze9 (V.zcd 0 2 b) (some []))) fun v => Q v h)))))))
@[simp] def zb9.k2 (C : CSem) (N : zN) (Q : zQ) (b : AVal) (h : za) : Prop :=
 B.pv (A.boxN 6 b) fun a =>
  B.al a (B.pv (V.zg 5 a) fun c =>
  B.cond c
  (zb9.k1 C N Q (.int .u8 1) a (.agg [.nils, .nils]) h)
  (zb9.k1 C N Q (.int .u8 0) a (.agg [.nils, .nils]) h))
@[simp] def zb9.cps (C : CSem) (N : zN) (a : AVal) (h : za) (Q : zQ) : Prop :=
 zb9.k2 C N Q a h
def zb9.Imp (C : CSem) (N : zN) : Prop := im1 C (N 464) (zb9.cps C N)
@[simp] def zbh.k1 (C : CSem) (N : zN) (Q : zQ) (g b a : AVal) (h : za) : Prop :=
 B.al b (B.pv (V.zg 0 b) fun c =>
  B.pv (V.bin .add (.str [105]) c) fun d =>
  B.zgy h d fun e h =>
  B.pv (A.bld [(0, none, e), (1, none, g)] [.nils, .nils]) fun f =>
  B.pv (V.setN 0 2 f a) fun a =>
  B.pv (oneOf (ze9 (V.zcd 0 2 a) (some []))) fun v => Q v h)
@[simp] def zbh.k2 (C : CSem) (N : zN) (Q : zQ) (Y1 : zL) (c b a n : AVal) (h : za) : Prop :=
 B.al a (B.pv (V.zg 3 a) fun d =>
  B.pv (V.zj d) fun e =>
  B.pv (V.bin .lss b e) fun f =>
  B.cond f
  (B.al a (B.pv (V.zg 3 a) fun g =>
  B.pv (V.idxS 1 g b) fun i =>
  B.ld h i fun j =>
  B.call C (N 59) [j] h fun k h =>
  B.appW h 1 1 c k fun l h =>
  B.pv (V.bin .add b (.int .i64 1)) fun m =>
  Y1 [l, m] h))
  (zbh.k1 C N Q c a n h))
@[simp] def zbh.l3 (C : CSem) (N : zN) (Q : zQ) (a b : AVal) : zG
 | [c, d], h, Y1 => zbh.k2 C N Q Y1 c d a b h
 | _, _, _ => False
@[simp] def zbh.k4 (C : CSem) (N : zN) (Q : zQ) (g a i : AVal) (h : za) : Prop :=
 B.al a (B.pv (V.zg 3 a) fun b =>
  B.pv (V.zj b) fun c =>
  B.pv (V.toInt .u8 c) fun d =>
  B.newO h (zcr [(0, none, d)] (repL 1 [.int .u8 0])) fun e h =>
  B.appW h 1 1 g (.sl e 0 0 1 1 1) fun f h =>
  ze (zbh.l3 C N Q a i) [f, (.int .i64 0)] h)
@[simp] def zbh.k5 (C : CSem) (N : zN) (Q : zQ) (Y2 : zL) (c b a u : AVal) (h : za) : Prop :=
 B.al a (B.pv (V.zg 2 a) fun d =>
  B.pv (V.zj d) fun e =>
  B.pv (V.bin .lss b e) fun f =>
  B.cond f
  (B.al a (B.pv (V.zg 2 a) fun g =>
  B.pv (V.idxS 2 g b) fun i =>
  B.pv (V.fieldAddr 0 i) fun j =>
  B.ld h j fun k =>
  B.call C (N 59) [k] h fun l h =>
  B.appW h 1 1 c l fun m h =>
  B.al a (B.pv (V.zg 2 a) fun n =>
  B.pv (V.idxS 2 n b) fun o =>
  B.pv (V.fieldAddr 1 o) fun p =>
  B.ld h p fun q =>
  B.call C (N 466) [q, (.int .i64 4)] h fun r h =>
  B.appW h 1 1 m r fun s h =>
  B.pv (V.bin .add b (.int .i64 1)) fun t =>
  Y2 [s, t] h)))
  (zbh.k4 C N Q c a u h))
@[simp] def zbh.l6 (C : CSem) (N : zN) (Q : zQ) (a b : AVal) : zG
 | [c, d], h, Y2 => zbh.k5 C N Q Y2 c d a b h
 | _, _, _ => False
@[simp] def zbh.k7 (C : CSem) (N : zN) (Q : zQ) (a g : AVal) (h : za) : Prop :=
 B.al a (B.pv (V.zg 1 a) fun i =>
  B.al a (B.pv (V.zg 2 a) fun b =>
  B.pv (V.zj b) fun c =>
  B.pv (V.toInt .u8 c) fun d =>
  B.call C (N 466) [i, (.int .i64 2)] h fun j h =>
  B.newO h (zcr [(0, none, d)] (repL 1 [.int .u8 0])) fun e h =>
  B.appW h 1 1 j (.sl e 0 0 1 1 1) fun f h =>
  ze (zbh.l6 C N Q a g) [f, (.int .i64 0)] h))
@[simp] def zbh.cps (C : CSem) (N : zN) (a : AVal) (h : za) (Q : zQ) : Prop :=
 B.pv (A.boxN 4 a) fun b =>
  zbh.k7 C N Q b (.agg [.nils, .nils]) h
def zbh.Imp (C : CSem) (N : zN) : Prop := im1 C (N 465) (zbh.cps C N)
@[simp] def zb6.k1 (C : CSem) (N : zN) (Q : zQ) (Y1 : zL) (m b a : AVal) (h : za) : Prop :=
 B.pv (V.bin .geq a (.int .i64 0)) fun c =>
  B.cond c
  (B.pv (V.toInt .u64 m) fun d =>
  B.pv (V.bin .mul (.int .i64 8) a) fun e =>
  B.pv (V.toInt .u64 e) fun f =>
  B.pv (V.bin .shr d f) fun g =>
  B.pv (V.toInt .u8 g) fun i =>
  B.newO h (zcr [(0, none, i)] (repL 1 [.int .u8 0])) fun j h =>
  B.appW h 1 1 b (.sl j 0 0 1 1 1) fun k h =>
  B.pv (V.bin .sub a (.int .i64 1)) fun l =>
  Y1 [k, l] h)
  (Q b h)
@[simp] def zb6.l2 (C : CSem) (N : zN) (Q : zQ) (a : AVal) : zG
 | [b, c], h, Y1 => zb6.k1 C N Q Y1 a b c h
 | _, _, _ => False
@[simp] def zb6.cps (C : CSem) (N : zN) (a b : AVal) (h : za) (Q : zQ) : Prop :=
 B.pv (V.bin .sub b (.int .i64 1)) fun c =>
  ze (zb6.l2 C N Q a) [.nils, c] h
def zb6.Imp (C : CSem) (N : zN) : Prop := im2 C (N 466) (zb6.cps C N)
@[simp] def zbk.k1 (C : CSem) (N : zN) (Q : zQ) (Y1 : zL) (d c : AVal) (h : za) : Prop :=
 B.al c (B.pv (V.zg 5 c) fun e =>
  B.pv (V.zj e) fun f =>
  B.pv (V.bin .lss d f) fun g =>
  B.cond g
  (B.al c (B.pv (V.zg 5 c) fun i =>
  B.pv (V.idxS 8 i d) fun j =>
  B.ldn h j 8 fun k =>
  B.call C (N 180) [k] h fun l h =>
  B.pv (V.un .not l) fun b =>
  B.gd h b false (fun K => K d h) fun m h =>
  B.gd h b false (fun K => B.pv (V.bin .gtr m (.int .i64 0)) fun v => K v h) fun n h =>
  B.gd h b false (fun K => K n h) fun a h =>
  B.al c (B.gd h a true (fun K => K .undef h) fun _ h =>
  B.gd h a true (fun K => B.pv (V.zg 5 c) fun v => K v h) fun o h =>
  B.gd h a true (fun K => K d h) fun p h =>
  B.gd h a true (fun K => B.pv (V.bin .sub p (.int .i64 1)) fun v => K v h) fun q h =>
  B.gd h a true (fun K => B.pv (V.idxS 8 o q) fun v => K v h) fun r h =>
  B.gd h a true (fun K => B.pv (V.fieldAddr 0 r) fun v => K v h) fun s h =>
  B.gd h a true (fun K => B.ld h s fun v => K v h) fun t h =>
  B.al c (B.gd h a true (fun K => K .undef h) fun _ h =>
  B.gd h a true (fun K => B.pv (V.zg 5 c) fun v => K v h) fun u h =>
  B.gd h a true (fun K => K d h) fun w h =>
  B.gd h a true (fun K => B.pv (V.idxS 8 u w) fun v => K v h) fun x h =>
  B.gd h a true (fun K => B.pv (V.fieldAddr 0 x) fun v => K v h) fun y h =>
  B.gd h a true (fun K => B.ld h y fun v => K v h) fun z h =>
  B.gd h a true (fun K => B.pv (V.bin .geq t z) fun v => K v h) fun aa h =>
  B.gd h b false (fun K => B.pick a aa (.bool false) fun v => K v h) fun ab h =>
  B.pick b (.bool true) ab fun ac =>
  B.cond ac
  (Q (.bool false) h)
  (B.pv (V.bin .add d (.int .i64 1)) fun ad =>
  Y1 [ad] h)))))
  (Q (.bool true) h))
@[simp] def zbk.l2 (C : CSem) (N : zN) (Q : zQ) (a : AVal) : zG
 | [b], h, Y1 => zbk.k1 C N Q Y1 b a h
 | _, _, _ => False
@[simp] def zbk.k3 (C : CSem) (N : zN) (Q : zQ) (Y2 : zL) (d b : AVal) (h : za) : Prop :=
 B.al b (B.pv (V.zg 4 b) fun g =>
  B.pv (V.zj g) fun i =>
  B.pv (V.bin .lss d i) fun j =>
  B.cond j
  (B.al b (B.pv (V.zg 4 b) fun k =>
  B.pv (V.idxS 6 k d) fun l =>
  B.ldn h l 6 fun m =>
  B.call C (N 60) [m] h fun n h =>
  B.pv (V.un .not n) fun c =>
  B.gd h c false (fun K => K d h) fun o h =>
  B.gd h c false (fun K => B.pv (V.bin .gtr o (.int .i64 0)) fun v => K v h) fun p h =>
  B.gd h c false (fun K => K p h) fun a h =>
  B.al b (B.gd h a true (fun K => K .undef h) fun _ h =>
  B.gd h a true (fun K => B.pv (V.zg 4 b) fun v => K v h) fun q h =>
  B.gd h a true (fun K => K d h) fun r h =>
  B.gd h a true (fun K => B.pv (V.bin .sub r (.int .i64 1)) fun v => K v h) fun s h =>
  B.gd h a true (fun K => B.pv (V.idxS 6 q s) fun v => K v h) fun t h =>
  B.gd h a true (fun K => B.pv (V.fieldAddr 0 t) fun v => K v h) fun u h =>
  B.gd h a true (fun K => B.ld h u fun v => K v h) fun w h =>
  B.al b (B.gd h a true (fun K => K .undef h) fun _ h =>
  B.gd h a true (fun K => B.pv (V.zg 4 b) fun v => K v h) fun x h =>
  B.gd h a true (fun K => K d h) fun y h =>
  B.gd h a true (fun K => B.pv (V.idxS 6 x y) fun v => K v h) fun z h =>
  B.gd h a true (fun K => B.pv (V.fieldAddr 0 z) fun v => K v h) fun aa h =>
  B.gd h a true (fun K => B.ld h aa fun v => K v h) fun ab h =>
  B.gd h a true (fun K => B.pv (V.bin .geq w ab) fun v => K v h) fun ac h =>
  B.gd h c false (fun K => B.pick a ac (.bool false) fun v => K v h) fun e h =>
  B.pick c (.bool true) e fun f =>
  B.cond f
  (Q (.bool false) h)
  (B.pv (V.bin .add d (.int .i64 1)) fun ad =>
  Y2 [ad] h)))))
  (ze (zbk.l2 C N Q b) [(.int .i64 0)] h))
@[simp] def zbk.l4 (C : CSem) (N : zN) (Q : zQ) (a : AVal) : zG
 | [b], h, Y2 => zbk.k3 C N Q Y2 b a h
 | _, _, _ => False
@[simp] def zbk.k5 (C : CSem) (N : zN) (Q : zQ) (Y3 : zL) (d b : AVal) (h : za) : Prop :=
 B.al b (B.pv (V.zg 3 b) fun e =>
  B.pv (V.zj e) fun f =>
  B.pv (V.bin .lss d f) fun g =>
  B.cond g
  (B.al b (B.pv (V.zg 3 b) fun i =>
  B.pv (V.idxS 4 i d) fun j =>
  B.ldn h j 4 fun k =>
  B.call C (N 472) [k] h fun l h =>
  B.pv (V.un .not l) fun c =>
  B.gd h c false (fun K => K d h) fun m h =>
  B.gd h c false (fun K => B.pv (V.bin .gtr m (.int .i64 0)) fun v => K v h) fun n h =>
  B.gd h c false (fun K => K n h) fun a h =>
  B.al b (B.gd h a true (fun K => K .undef h) fun _ h =>
  B.gd h a true (fun K => B.pv (V.zg 3 b) fun v => K v h) fun o h =>
  B.gd h a true (fun K => K d h) fun p h =>
  B.gd h a true (fun K => B.pv (V.bin .sub p (.int .i64 1)) fun v => K v h) fun q h =>
  B.gd h a true (fun K => B.pv (V.idxS 4 o q) fun v => K v h) fun r h =>
  B.gd h a true (fun K => B.pv (V.fieldAddr 0 r) fun v => K v h) fun s h =>
  B.gd h a true (fun K => B.ld h s fun v => K v h) fun t h =>
  B.al b (B.gd h a true (fun K => K .undef h) fun _ h =>
  B.gd h a true (fun K => B.pv (V.zg 3 b) fun v => K v h) fun u h =>
  B.gd h a true (fun K => K d h) fun w h =>
  B.gd h a true (fun K => B.pv (V.idxS 4 u w) fun v => K v h) fun x h =>
  B.gd h a true (fun K => B.pv (V.fieldAddr 0 x) fun v => K v h) fun y h =>
  B.gd h a true (fun K => B.ld h y fun v => K v h) fun z h =>
  B.gd h a true (fun K => B.pv (V.bin .geq t z) fun v => K v h) fun aa h =>
  B.gd h c false (fun K => B.pick a aa (.bool false) fun v => K v h) fun ab h =>
  B.pick c (.bool true) ab fun ac =>
  B.cond ac
  (Q (.bool false) h)
  (B.pv (V.bin .add d (.int .i64 1)) fun ad =>
  Y3 [ad] h)))))
  (ze (zbk.l4 C N Q b) [(.int .i64 0)] h))
@[simp] def zbk.l6 (C : CSem) (N : zN) (Q : zQ) (a : AVal) : zG
 | [b], h, Y3 => zbk.k5 C N Q Y3 b a h
 | _, _, _ => False
@[simp] def zbk.k7 (C : CSem) (N : zN) (Q : zQ) (a : AVal) (h : za) : Prop :=
 B.al a (B.pv (V.zg 0 a) fun s =>
  B.pv (V.bin .lss s (.int .i64 0)) fun f =>
  B.al a (B.gd h f false (fun K => K .undef h) fun _ h =>
  B.gd h f false (fun K => B.pv (V.zg 0 a) fun v => K v h) fun g h =>
  B.gd h f false (fun K => B.pv (V.bin .gtr g (.int .i64 4000)) fun v => K v h) fun i h =>
  B.pick f (.bool true) i fun b =>
  B.al a (B.gd h b false (fun K => K .undef h) fun _ h =>
  B.gd h b false (fun K => B.pv (V.zg 1 a) fun v => K v h) fun j h =>
  B.gd h b false (fun K => B.pv (V.bin .lss j (.int .i64 1)) fun v => K v h) fun k h =>
  B.pick b (.bool true) k fun c =>
  B.al a (B.gd h c false (fun K => K .undef h) fun _ h =>
  B.gd h c false (fun K => B.pv (V.zg 1 a) fun v => K v h) fun l h =>
  B.gd h c false (fun K => B.pv (V.bin .gtr l (.int .i64 4611686018427387904)) fun v => K v h) fun m h =>
  B.pick c (.bool true) m fun d =>
  B.al a (B.gd h d false (fun K => K .undef h) fun _ h =>
  B.gd h d false (fun K => B.pv (V.zg 2 a) fun v => K v h) fun n h =>
  B.gd h d false (fun K => B.pv (V.bin .lss n (.int .i64 1)) fun v => K v h) fun o h =>
  B.pick d (.bool true) o fun e =>
  B.al a (B.gd h e false (fun K => K .undef h) fun _ h =>
  B.gd h e false (fun K => B.pv (V.zg 2 a) fun v => K v h) fun p h =>
  B.gd h e false (fun K => B.pv (V.bin .gtr p (.int .i64 4611686018427387904)) fun v => K v h) fun q h =>
  B.pick e (.bool true) q fun r =>
  B.cond r
  (Q (.bool false) h)
  (ze (zbk.l6 C N Q a) [(.int .i64 0)] h)))))))
@[simp] def zbk.cps (C : CSem) (N : zN) (a : AVal) (h : za) (Q : zQ) : Prop :=
 B.pv (A.boxN 6 a) fun b =>
  zbk.k7 C N Q b h
def zbk.Imp (C : CSem) (N : zN) : Prop := im1 C (N 467) (zbk.cps C N)
@[simp] def zp.k1 (C : CSem) (N : zN) (Q : zQ) (j e : AVal) (h : za) : Prop :=
 B.call C (N 71) [e, (.int .i64 2)] h fun f h =>
  B.nilCheck j fun g =>
  B.pv (V.fieldAddr 0 g) fun i =>
  B.st h i f fun h =>
  B.nilCheck e fun a =>
  B.pv (V.fieldAddr 2 a) fun b =>
  B.ld h b fun c =>
  B.pv (V.un .not c) fun d =>
  Q d h
@[simp] def zp.k2 (C : CSem) (N : zN) (Q : zQ) (j e : AVal) (h : za) : Prop :=
 B.call C (N 71) [e, (.int .i64 8)] h fun f h =>
  B.nilCheck j fun g =>
  B.pv (V.fieldAddr 1 g) fun i =>
  B.st h i f fun h =>
  B.nilCheck e fun a =>
  B.pv (V.fieldAddr 2 a) fun b =>
  B.ld h b fun c =>
  B.pv (V.un .not c) fun d =>
  Q d h
@[simp] def zp.k3 (C : CSem) (N : zN) (Q : zQ) (j e : AVal) (h : za) : Prop :=
 B.call C (N 71) [e, (.int .i64 8)] h fun f h =>
  B.nilCheck j fun g =>
  B.pv (V.fieldAddr 2 g) fun i =>
  B.st h i f fun h =>
  B.nilCheck e fun a =>
  B.pv (V.fieldAddr 2 a) fun b =>
  B.ld h b fun c =>
  B.pv (V.un .not c) fun d =>
  Q d h
@[simp] def zp.k4 (C : CSem) (N : zN) (Q : zQ) (n o p : AVal) (h : za) : Prop :=
 B.nilCheck n fun a =>
  B.pv (V.fieldAddr 3 a) fun b =>
  B.ld h b fun c =>
  B.pv (V.zcd 0 4 p) fun d =>
  B.newO h (zcr [(0, some 4, d)] (repL 1 [.str [], .int .i64 0, .nils, .nils])) fun e h =>
  B.appW h 4 72 c (.sl e 0 0 1 4 1) fun f h =>
  B.nilCheck n fun g =>
  B.pv (V.fieldAddr 3 g) fun i =>
  B.st h i f fun h =>
  B.nilCheck o fun j =>
  B.pv (V.fieldAddr 2 j) fun k =>
  B.ld h k fun l =>
  B.pv (V.un .not l) fun m =>
  Q m h
@[simp] def zp.k5 (C : CSem) (N : zN) (Q : zQ) (Y1 : zL) (q d c b : AVal) (h : za) : Prop :=
 B.pv (V.bin .gtr c (.int .i64 0)) fun a =>
  B.gd h a true (fun K => K d h) fun i h =>
  B.gd h a true (fun K => B.nilCheck i fun v => K v h) fun j h =>
  B.gd h a true (fun K => B.pv (V.fieldAddr 2 j) fun v => K v h) fun k h =>
  B.gd h a true (fun K => B.ld h k fun v => K v h) fun l h =>
  B.gd h a true (fun K => B.pv (V.un .not l) fun v => K v h) fun m h =>
  B.pick a m (.bool false) fun n =>
  B.cond n
  (B.al b (B.pv (V.zg 3 b) fun o =>
  B.call C (N 73) [d] h fun e h =>
  B.newO h (zcr [(0, none, e)] (repL 1 [.str []])) fun f h =>
  B.appW h 1 16 o (.sl f 0 0 1 1 1) fun g h =>
  B.al b (B.pv (V.setF 3 g b) fun b =>
  B.pv (V.bin .sub c (.int .i64 1)) fun p =>
  Y1 [p, b] h)))
  (zp.k4 C N Q q d b h)
@[simp] def zp.l6 (C : CSem) (N : zN) (Q : zQ) (b c : AVal) : zG
 | [a, d], h, Y1 => zp.k5 C N Q Y1 b c a d h
 | _, _, _ => False
@[simp] def zp.k7 (C : CSem) (N : zN) (Q : zQ) (Y2 : zL) (w c e b : AVal) (h : za) : Prop :=
 B.pv (V.bin .gtr e (.int .i64 0)) fun a =>
  B.gd h a true (fun K => K c h) fun f h =>
  B.gd h a true (fun K => B.nilCheck f fun v => K v h) fun g h =>
  B.gd h a true (fun K => B.pv (V.fieldAddr 2 g) fun v => K v h) fun i h =>
  B.gd h a true (fun K => B.ld h i fun v => K v h) fun j h =>
  B.gd h a true (fun K => B.pv (V.un .not j) fun v => K v h) fun k h =>
  B.pick a k (.bool false) fun l =>
  B.cond l
  (B.call C (N 73) [c] h fun m h =>
  B.pv (A.bld [(0, none, m)] [.str [], .int .i64 0]) fun n =>
  B.pv (V.setN 0 2 n (.agg [.str [], .int .i64 0])) fun d =>
  B.call C (N 71) [c, (.int .i64 4)] h fun o h =>
  B.al d (B.pv (V.setF 1 o d) fun d =>
  B.al b (B.pv (V.zg 2 b) fun p =>
  B.pv (V.zcd 0 2 d) fun q =>
  B.newO h (zcr [(0, some 2, q)] (repL 1 [.str [], .int .i64 0])) fun r h =>
  B.appW h 2 24 p (.sl r 0 0 1 2 1) fun s h =>
  B.al b (B.pv (V.setF 2 s b) fun b =>
  B.pv (V.bin .sub e (.int .i64 1)) fun t =>
  Y2 [t, b] h))))
  (B.call C (N 71) [c, (.int .i64 1)] h fun u h =>
  ze (zp.l6 C N Q w c) [u, b] h)
@[simp] def zp.l8 (C : CSem) (N : zN) (Q : zQ) (a b : AVal) : zG
 | [c, d], h, Y2 => zp.k7 C N Q Y2 a b c d h
 | _, _, _ => False
@[simp] def zp.k9 (C : CSem) (N : zN) (Q : zQ) (f a g : AVal) (h : za) : Prop :=
 B.pv (V.zrm g (some (.int .i64 1)) none) fun b =>
  B.call C (N 71) [a, (.int .i64 2)] h fun c h =>
  B.pv (A.bld [(0, none, b), (1, none, c)] [.str [], .int .i64 0, .nils, .nils]) fun d =>
  B.pv (V.setN 0 4 d (.agg [.str [], .int .i64 0, .nils, .nils])) fun i =>
  B.call C (N 71) [a, (.int .i64 1)] h fun e h =>
  ze (zp.l8 C N Q f a) [e, i] h
@[simp] def zp.k10 (C : CSem) (N : zN) (Q : zQ) (k c l m : AVal) (h : za) : Prop :=
 B.pv (V.zij l) fun n =>
  B.pv (V.bin .eql n (.int .i64 9)) fun d =>
  B.gd h d true (fun K => K l h) fun o h =>
  B.gd h d true (fun K => B.pv (V.zh8 o (.int .i64 0)) fun v => K v h) fun p h =>
  B.gd h d true (fun K => B.pv (V.bin .eql p (.int .u8 108)) fun v => K v h) fun q h =>
  B.pick d q (.bool false) fun r =>
  B.cond r
  (B.al m (B.pv (V.zg 0 m) fun s =>
  B.pv (V.zgo 1 s (some (.int .i64 1)) none) fun t =>
  B.pv (A.bld [(0, none, t)] [.nils, .int .i64 0, .bool false]) fun u =>
  B.newO h (A.zjp 3 u) fun w h =>
  B.call C (N 71) [(.ptr w 0 0), (.int .i64 8)] h fun x h =>
  B.call C (N 73) [c] h fun y h =>
  B.pv (A.bld [(0, none, x), (1, none, y)] [.int .i64 0, .str [], .int .i64 0, .int .i64 0, .int .i64 0, .bool false]) fun z =>
  B.pv (V.setN 0 6 z (.agg [.int .i64 0, .str [], .int .i64 0, .int .i64 0, .int .i64 0, .bool false])) fun b =>
  B.call C (N 71) [c, (.int .i64 2)] h fun aa h =>
  B.al b (B.al b (B.pv (V.setF 2 aa b) fun b =>
  B.call C (N 71) [c, (.int .i64 2)] h fun ab h =>
  B.al b (B.al b (B.pv (V.setF 3 ab b) fun b =>
  B.call C (N 71) [c, (.int .i64 4)] h fun ac h =>
  B.al b (B.pv (V.setF 4 ac b) fun b =>
  B.call C (N 71) [c, (.int .i64 1)] h fun ad h =>
  B.pv (V.bin .eql ad (.int .i64 1)) fun ae =>
  B.al b (B.pv (V.setF 5 ae b) fun b =>
  B.nilCheck k fun af =>
  B.pv (V.fieldAddr 4 af) fun ag =>
  B.ld h ag fun ah =>
  B.pv (V.zcd 0 6 b) fun ai =>
  B.newO h (zcr [(0, some 6, ai)] (repL 1 [.int .i64 0, .str [], .int .i64 0, .int .i64 0, .int .i64 0, .bool false])) fun aj h =>
  B.appW h 6 56 ah (.sl aj 0 0 1 6 1) fun ak h =>
  B.nilCheck k fun am =>
  B.pv (V.fieldAddr 4 am) fun an =>
  B.st h an ak fun h =>
  B.nilCheck c fun f =>
  B.pv (V.fieldAddr 2 f) fun g =>
  B.ld h g fun i =>
  B.pv (V.un .not i) fun j =>
  Q j h))))))))
  (B.pv (V.zij l) fun ao =>
  B.pv (V.bin .eql ao (.int .i64 9)) fun e =>
  B.gd h e true (fun K => K l h) fun ap h =>
  B.gd h e true (fun K => B.pv (V.zh8 ap (.int .i64 0)) fun v => K v h) fun aq h =>
  B.gd h e true (fun K => B.pv (V.bin .eql aq (.int .u8 111)) fun v => K v h) fun ar h =>
  B.pick e ar (.bool false) fun au =>
  B.cond au
  (B.al m (B.pv (V.zg 0 m) fun av =>
  B.pv (V.zgo 1 av (some (.int .i64 1)) none) fun aw =>
  B.pv (A.bld [(0, none, aw)] [.nils, .int .i64 0, .bool false]) fun ax =>
  B.newO h (A.zjp 3 ax) fun ay h =>
  B.call C (N 71) [(.ptr ay 0 0), (.int .i64 8)] h fun az h =>
  B.call C (N 73) [c] h fun ba h =>
  B.pv (A.bld [(0, none, az), (1, none, ba)] [.int .i64 0, .str [], .int .i64 0, .int .i64 0, .int .i64 0, .int .u8 0, .int .i64 0, .str []]) fun bb =>
  B.pv (V.setN 0 8 bb (.agg [.int .i64 0, .str [], .int .i64 0, .int .i64 0, .int .i64 0, .int .u8 0, .int .i64 0, .str []])) fun a =>
  B.call C (N 71) [c, (.int .i64 4)] h fun bc h =>
  B.al a (B.pv (V.setF 2 bc a) fun a =>
  B.call C (N 71) [c, (.int .i64 2)] h fun bd h =>
  B.al a (B.pv (V.setF 3 bd a) fun a =>
  B.call C (N 71) [c, (.int .i64 1)] h fun be h =>
  B.al a (B.pv (V.setF 4 be a) fun a =>
  B.call C (N 71) [c, (.int .i64 1)] h fun bf h =>
  B.pv (V.toInt .u8 bf) fun bg =>
  B.al a (B.pv (V.setF 5 bg a) fun a =>
  B.call C (N 71) [c, (.int .i64 2)] h fun bh h =>
  B.pv (V.bin .sub bh (.int .i64 1)) fun bi =>
  B.al a (B.pv (V.setF 6 bi a) fun a =>
  B.call C (N 73) [c] h fun bj h =>
  B.al a (B.pv (V.setF 7 bj a) fun a =>
  B.nilCheck k fun bk =>
  B.pv (V.fieldAddr 5 bk) fun bl =>
  B.ld h bl fun bm =>
  B.pv (V.zcd 0 8 a) fun bn =>
  B.newO h (zcr [(0, some 8, bn)] (repL 1 [.int .i64 0, .str [], .int .i64 0, .int .i64 0, .int .i64 0, .int .u8 0, .int .i64 0, .str []])) fun bo h =>
  B.appW h 8 80 bm (.sl bo 0 0 1 8 1) fun bp h =>
  B.nilCheck k fun bq =>
  B.pv (V.fieldAddr 5 bq) fun br =>
  B.st h br bp fun h =>
  B.nilCheck c fun f =>
  B.pv (V.fieldAddr 2 f) fun g =>
  B.ld h g fun i =>
  B.pv (V.un .not i) fun j =>
  Q j h))))))))
  (Q (.bool false) h))
@[simp] def zp.k11 (C : CSem) (N : zN) (Q : zQ) (c d b k : AVal) (h : za) : Prop :=
 B.pv (V.zij b) fun e =>
  B.pv (V.bin .gtr e (.int .i64 0)) fun a =>
  B.gd h a true (fun K => K b h) fun f h =>
  B.gd h a true (fun K => B.pv (V.zh8 f (.int .i64 0)) fun v => K v h) fun g h =>
  B.gd h a true (fun K => B.pv (V.bin .eql g (.int .u8 105)) fun v => K v h) fun i h =>
  B.pick a i (.bool false) fun j =>
  B.cond j (zp.k9 C N Q c d b h) (zp.k10 C N Q c d b k h)
@[simp] def zp.k12 (C : CSem) (N : zN) (Q : zQ) (a b c f : AVal) (h : za) : Prop :=
 B.pv (V.bin .eql c (.str [42, 108, 111, 116])) fun d =>
  B.cond d (zp.k2 C N Q a b h) (B.pv (V.bin .eql c (.str [42, 108, 105, 110, 101])) fun e =>
  B.cond e (zp.k3 C N Q a b h) (zp.k11 C N Q a b c f h))
@[simp] def zp.k13 (C : CSem) (N : zN) (Q : zQ) (c d b : AVal) (h : za) : Prop :=
 B.al b (B.pv (V.zg 0 b) fun e =>
  B.zda h e fun a =>
  B.pv (V.bin .eql a (.str [42, 100, 97, 121])) fun f =>
  B.cond f (zp.k1 C N Q c d h) (zp.k12 C N Q c d a b h))
@[simp] def zp.k14 (C : CSem) (N : zN) (Q : zQ) (e a : AVal) (h : za) : Prop :=
 B.al a (B.pv (V.zg 1 a) fun b =>
  B.pv (A.bld [(0, none, b)] [.nils, .int .i64 0, .bool false]) fun c =>
  B.newO h (A.zjp 3 c) fun d h =>
  zp.k13 C N Q e (.ptr d 0 0) a h)
@[simp] def zp.cps (C : CSem) (N : zN) (a b : AVal) (h : za) (Q : zQ) : Prop :=
 B.pv (A.boxN 2 b) fun c =>
  zp.k14 C N Q a c h
def zp.Imp (C : CSem) (N : zN) : Prop := im2 C (N 469) (zp.cps C N)
@[simp] def zce.k1 (C : CSem) (N : zN) (Q : zQ) (Y1 : zL) (b c a : AVal) (h : za) : Prop :=
 B.pv (V.zj b) fun i =>
  B.pv (V.bin .lss a i) fun j =>
  B.cond j
  (B.pv (V.idxS 1 b a) fun d =>
  B.ld h d fun e =>
  B.appW h 1 1 c e fun f h =>
  B.pv (V.bin .add a (.int .i64 1)) fun g =>
  Y1 [f, g] h)
  (Q c h)
@[simp] def zce.l2 (C : CSem) (N : zN) (Q : zQ) (a : AVal) : zG
 | [b, c], h, Y1 => zce.k1 C N Q Y1 a b c h
 | _, _, _ => False
@[simp] def zce.cps (C : CSem) (N : zN) (a : AVal) (h : za) (Q : zQ) : Prop :=
 ze (zce.l2 C N Q a) [.nils, (.int .i64 0)] h
def zce.Imp (C : CSem) (N : zN) : Prop := im1 C (N 471) (zce.cps C N)
@[simp] def zer.k1 (C : CSem) (N : zN) (Q : zQ) (y : AVal) (h : za) : Prop :=
 B.pv (A.boxN 4 y) fun a =>
  B.al a (B.pv (V.zg 0 a) fun z =>
  B.call C (N 61) [z] h fun v5 h =>
  B.pv (V.un .not v5) fun c =>
  B.al a (B.gd h c false (fun K => K .undef h) fun _ h =>
  B.gd h c false (fun K => B.pv (V.zg 0 a) fun v => K v h) fun v9 h =>
  B.al a (B.gd h c false (fun K => K .undef h) fun _ h =>
  B.gd h c false (fun K => B.pv (V.zg 3 a) fun v => K v h) fun e h =>
  B.gd h c false (fun K => B.pv (A.bld [(0, none, (.int .u8 3)), (2, none, v9), (10, none, e)] [.int .u8 0, .int .i64 0, .str [], .int .i64 0, .int .i64 0, .int .i64 0, .int .i64 0, .int .i64 0, .int .i64 0, .nils, .nils]) fun v => K v h) fun f h =>
  B.gd h c false (fun K => B.call C (N 474) [f] h K) fun g h =>
  B.gd h c false (fun K => B.pv (V.un .not g) fun v => K v h) fun i h =>
  B.pick c (.bool true) i fun j =>
  B.cond j
  (Q (.bool false) h)
  (B.al a (B.pv (V.zg 2 a) fun k =>
  B.pv (V.zj k) fun l =>
  B.pv (V.bin .eql l (.int .i64 0)) fun m =>
  B.cond m
  (B.al a (B.pv (V.zg 1 a) fun n =>
  B.pv (V.bin .geq n (.int .i64 1)) fun d =>
  B.al a (B.gd h d true (fun K => K .undef h) fun _ h =>
  B.gd h d true (fun K => B.pv (V.zg 1 a) fun v => K v h) fun o h =>
  B.gd h d true (fun K => B.pv (V.bin .leq o (.int .i64 2000)) fun v => K v h) fun p h =>
  B.pick d p (.bool false) fun q =>
  Q q h)))
  (B.al a (B.pv (V.zg 1 a) fun r =>
  B.pv (V.bin .eql r (.int .i64 0)) fun b =>
  B.al a (B.gd h b true (fun K => K .undef h) fun _ h =>
  B.gd h b true (fun K => B.pv (V.zg 0 a) fun v => K v h) fun s h =>
  B.al a (B.gd h b true (fun K => K .undef h) fun _ h =>
  B.gd h b true (fun K => B.pv (V.zg 2 a) fun v => K v h) fun t h =>
  B.gd h b true (fun K => B.pv (A.bld [(0, none, (.int .u8 2)), (2, none, s), (9, none, t)] [.int .u8 0, .int .i64 0, .str [], .int .i64 0, .int .i64 0, .int .i64 0, .int .i64 0, .int .i64 0, .int .i64 0, .nils, .nils]) fun v => K v h) fun u h =>
  B.gd h b true (fun K => B.call C (N 474) [u] h K) fun w h =>
  B.pick b w (.bool false) fun x =>
  Q x h)))))))))
@[simp] def zer.cps (C : CSem) (N : zN) (a : AVal) (h : za) (Q : zQ) : Prop :=
 zer.k1 C N Q a h
def zer.Imp (C : CSem) (N : zN) : Prop := im1 C (N 472) (zer.cps C N)
@[simp] def z9.k1 (C : CSem) (N : zN) (Q : zQ) (Y1 : zL) (v3 v4 c d b : AVal) (h : za) : Prop :=
 B.pv (V.bin .lss b d) fun e =>
  B.cond e
  (B.pv (V.idxS 8 c b) fun f =>
  B.ldn h f 8 fun g =>
  B.pv (V.setN 0 8 g (.agg [.int .i64 0, .str [], .int .i64 0, .int .i64 0, .int .i64 0, .int .u8 0, .int .i64 0, .str []])) fun a =>
  B.al a (B.pv (V.zg 0 a) fun i =>
  B.al a (B.pv (V.zg 1 a) fun j =>
  B.al a (B.pv (V.zg 2 a) fun k =>
  B.al a (B.pv (V.zg 3 a) fun l =>
  B.al a (B.pv (V.zg 4 a) fun m =>
  B.pv (V.toInt .u8 m) fun n =>
  B.al a (B.pv (V.zg 5 a) fun o =>
  B.al a (B.pv (V.zg 6 a) fun p =>
  B.pv (V.bin .add p (.int .i64 1)) fun q =>
  B.al a (B.pv (V.zg 7 a) fun r =>
  B.call C (N 423) [i, (.int .i64 8)] h fun s h =>
  B.newO h (zcr [(0, none, (.int .u8 111))] (repL 1 [.int .u8 0])) fun t h =>
  B.conv h (.sl t 0 0 1 1 1) fun u =>
  B.newO h (zcr [(0, none, u), (1, none, s)] (repL 2 [.nils])) fun v h =>
  B.call C (N 424) [(.sl v 0 0 2 1 2)] h fun w h =>
  B.call C (N 51) [j] h fun x h =>
  B.call C (N 423) [k, (.int .i64 4)] h fun y h =>
  B.call C (N 423) [l, (.int .i64 2)] h fun z h =>
  B.call C (N 423) [q, (.int .i64 2)] h fun aa h =>
  B.call C (N 51) [r] h fun ab h =>
  B.newO h (zcr [(0, none, n), (1, none, o)] (repL 2 [.int .u8 0])) fun ac h =>
  B.newO h (zcr [(0, none, x), (1, none, y), (2, none, z), (3, none, (.sl ac 0 0 2 1 2)), (4, none, aa), (5, none, ab)] (repL 6 [.nils])) fun ad h =>
  B.zki h C v4 [w, (.sl ad 0 0 6 1 6)] fun ai h =>
  B.pv (V.bin .add b (.int .i64 1)) fun ae =>
  Y1 [ae] h)))))))))
  (B.ld h v3 fun af =>
  Q af h)
@[simp] def z9.l2 (C : CSem) (N : zN) (Q : zQ) (d e a b : AVal) : zG
 | [c], h, Y1 => z9.k1 C N Q Y1 d e a b c h
 | _, _, _ => False
@[simp] def z9.k3 (C : CSem) (N : zN) (Q : zQ) (Y2 : zL) (y u t v w b z a : AVal) (h : za) : Prop :=
 B.al a (B.pv (V.zg 0 a) fun c =>
  B.al a (B.pv (V.zg 1 a) fun d =>
  B.al a (B.al a (B.pv (V.zg 2 a) fun e =>
  B.al a (B.al a (B.pv (V.zg 3 a) fun f =>
  B.al a (B.pv (V.zg 4 a) fun g =>
  B.call C (N 423) [c, (.int .i64 8)] h fun i h =>
  B.newO h (zcr [(0, none, (.int .u8 108))] (repL 1 [.int .u8 0])) fun j h =>
  B.conv h (.sl j 0 0 1 1 1) fun k =>
  B.newO h (zcr [(0, none, k), (1, none, i)] (repL 2 [.nils])) fun l h =>
  B.call C (N 424) [(.sl l 0 0 2 1 2)] h fun m h =>
  B.call C (N 51) [d] h fun n h =>
  B.call C (N 423) [e, (.int .i64 2)] h fun o h =>
  B.call C (N 423) [f, (.int .i64 2)] h fun p h =>
  B.call C (N 423) [g, (.int .i64 4)] h fun q h =>
  B.newO h (zcr [(0, none, n), (1, none, o), (2, none, p), (3, none, q), (4, none, t)] (repL 5 [.nils])) fun r h =>
  B.zki h C u [m, (.sl r 0 0 5 1 5)] fun x h =>
  B.pv (V.bin .add b (.int .i64 1)) fun s =>
  Y2 [s] h)))))))
@[simp] def z9.k4 (C : CSem) (N : zN) (Q : zQ) (Y2 : zL) (i j b c d e k a : AVal) (h : za) : Prop :=
 B.al a (B.pv (V.zg 5 a) fun f =>
  B.cond f
  (B.pv (V.idxS 1 b (.int .i64 0)) fun g =>
  B.st h g (.int .u8 1) fun h =>
  z9.k3 C N Q Y2 i j b c d e k a h)
  (z9.k3 C N Q Y2 i j b c d e k a h))
@[simp] def z9.k5 (C : CSem) (N : zN) (Q : zQ) (Y2 : zL) (i j a c b k : AVal) (h : za) : Prop :=
 B.pv (V.idxS 6 a b) fun d =>
  B.ldn h d 6 fun e =>
  B.pv (V.setN 0 6 e (.agg [.int .i64 0, .str [], .int .i64 0, .int .i64 0, .int .i64 0, .bool false])) fun g =>
  B.newO h (zcr [(0, none, (.int .u8 0))] (repL 1 [.int .u8 0])) fun f h =>
  z9.k4 C N Q Y2 i j (.sl f 0 0 1 1 1) a c b k g h
@[simp] def z9.k6 (C : CSem) (N : zN) (Q : zQ) (Y2 : zL) (i j b c d e f : AVal) (h : za) : Prop :=
 B.cond e
  (z9.k5 C N Q Y2 i j b c d f h)
  (B.al f (B.pv (V.zg 5 f) fun a =>
  B.pv (V.zj a) fun g =>
  ze (z9.l2 C N Q i j a g) [(.int .i64 0)] h))
@[simp] def z9.l7 (C : CSem) (N : zN) (Q : zQ) (e f c a g : AVal) : zG
 | [b], h, Y2 => B.pv (V.bin .lss b a) fun d =>
  z9.k6 C N Q Y2 e f c a b d g h
 | _, _, _ => False
@[simp] def z9.k8 (C : CSem) (N : zN) (Q : zQ) (Y3 : zL) (m g i k l e n f : AVal) (h : za) : Prop :=
 B.al f (B.pv (V.zg 0 f) fun a =>
  B.pv (V.bin .add (.str [105]) a) fun b =>
  B.zgy h b fun c h =>
  B.zki h C g [c, i] fun j h =>
  B.pv (V.bin .add e (.int .i64 1)) fun d =>
  Y3 [d] h)
@[simp] def z9.k9 (C : CSem) (N : zN) (Q : zQ) (Y3 : zL) (Y4 : zL) (p q b c d e f g a r s : AVal) (h : za) : Prop :=
 B.pv (V.bin .lss a g) fun i =>
  B.cond i
  (B.pv (V.idxS 1 f a) fun j =>
  B.ld h j fun k =>
  B.call C (N 51) [k] h fun l h =>
  B.newO h (zcr [(0, none, l)] (repL 1 [.nils])) fun m h =>
  B.appW h 1 24 b (.sl m 0 0 1 1 1) fun n h =>
  B.pv (V.bin .add a (.int .i64 1)) fun o =>
  Y4 [n, o] h)
  (z9.k8 C N Q Y3 p q b c d e r s h)
@[simp] def z9.l10 (C : CSem) (N : zN) (Q : zQ) (Y3 : zL) (g i a b c d e j k : AVal) : zG
 | [l, f], h, Y4 => z9.k9 C N Q Y3 Y4 g i l a b c d e f j k h
 | _, _, _ => False
@[simp] def z9.k11 (C : CSem) (N : zN) (Q : zQ) (Y3 : zL) (g i j c d e k b : AVal) (h : za) : Prop :=
 B.al b (B.pv (V.zg 3 b) fun a =>
  B.pv (V.zj a) fun f =>
  ze (z9.l10 C N Q Y3 g i c d e a f k b) [j, (.int .i64 0)] h)
@[simp] def z9.k12 (C : CSem) (N : zN) (Q : zQ) (Y3 : zL) (l m n b c d o a : AVal) (h : za) : Prop :=
 B.al a (B.pv (V.zg 3 a) fun e =>
  B.pv (V.zj e) fun f =>
  B.pv (V.toInt .u8 f) fun g =>
  B.newO h (zcr [(0, none, g)] (repL 1 [.int .u8 0])) fun i h =>
  B.newO h (zcr [(0, none, (.sl i 0 0 1 1 1))] (repL 1 [.nils])) fun j h =>
  B.appW h 1 24 n (.sl j 0 0 1 1 1) fun k h =>
  z9.k11 C N Q Y3 l m k b c d o a h)
@[simp] def z9.k13 (C : CSem) (N : zN) (Q : zQ) (Y3 : zL) (Y5 : zL) (t u c d e f g i a v w : AVal) (h : za) : Prop :=
 B.pv (V.bin .lss a i) fun j =>
  B.cond j
  (B.pv (V.idxS 2 g a) fun k =>
  B.ldn h k 2 fun l =>
  B.pv (V.setN 0 2 l (.agg [.str [], .int .i64 0])) fun b =>
  B.al b (B.pv (V.zg 0 b) fun m =>
  B.al b (B.pv (V.zg 1 b) fun n =>
  B.call C (N 51) [m] h fun o h =>
  B.call C (N 423) [n, (.int .i64 4)] h fun p h =>
  B.newO h (zcr [(0, none, o), (1, none, p)] (repL 2 [.nils])) fun q h =>
  B.appW h 1 24 c (.sl q 0 0 2 1 2) fun r h =>
  B.pv (V.bin .add a (.int .i64 1)) fun s =>
  Y5 [r, s] h)))
  (z9.k12 C N Q Y3 t u c d e f v w h)
@[simp] def z9.l14 (C : CSem) (N : zN) (Q : zQ) (Y3 : zL) (g i a b c d e j k : AVal) : zG
 | [l, f], h, Y5 => z9.k13 C N Q Y3 Y5 g i l a b c d e f j k h
 | _, _, _ => False
@[simp] def z9.k15 (C : CSem) (N : zN) (Q : zQ) (Y3 : zL) (g i j c d e k b : AVal) (h : za) : Prop :=
 B.al b (B.pv (V.zg 2 b) fun a =>
  B.pv (V.zj a) fun f =>
  ze (z9.l14 C N Q Y3 g i c d e a f k b) [j, (.int .i64 0)] h)
@[simp] def z9.k16 (C : CSem) (N : zN) (Q : zQ) (Y3 : zL) (m n b c d o a : AVal) (h : za) : Prop :=
 B.al a (B.pv (V.zg 1 a) fun e =>
  B.al a (B.pv (V.zg 2 a) fun f =>
  B.pv (V.zj f) fun g =>
  B.pv (V.toInt .u8 g) fun i =>
  B.call C (N 423) [e, (.int .i64 2)] h fun j h =>
  B.newO h (zcr [(0, none, i)] (repL 1 [.int .u8 0])) fun k h =>
  B.newO h (zcr [(0, none, j), (1, none, (.sl k 0 0 1 1 1))] (repL 2 [.nils])) fun l h =>
  z9.k15 C N Q Y3 m n (.sl l 0 0 2 1 2) b c d o a h))
@[simp] def z9.k17 (C : CSem) (N : zN) (Q : zQ) (Y3 : zL) (f g a c b i : AVal) (h : za) : Prop :=
 B.pv (V.idxS 4 a b) fun d =>
  B.ldn h d 4 fun e =>
  B.pv (V.setN 0 4 e (.agg [.str [], .int .i64 0, .nils, .nils])) fun j =>
  z9.k16 C N Q Y3 f g a c b i j h
@[simp] def z9.k18 (C : CSem) (N : zN) (Q : zQ) (Y3 : zL) (d e f g i j b : AVal) (h : za) : Prop :=
 B.cond j
  (z9.k17 C N Q Y3 d e f g i b h)
  (B.al b (B.pv (V.zg 4 b) fun a =>
  B.pv (V.zj a) fun c =>
  ze (z9.l7 C N Q d e a c b) [(.int .i64 0)] h))
@[simp] def z9.l19 (C : CSem) (N : zN) (Q : zQ) (e f c a g : AVal) : zG
 | [b], h, Y3 => B.pv (V.bin .lss b a) fun d =>
  z9.k18 C N Q Y3 e f c a b d g h
 | _, _, _ => False
@[simp] def z9.k20 (C : CSem) (N : zN) (Q : zQ) (k c a : AVal) (h : za) : Prop :=
 B.newO h (zcr [(0, none, (.int .u8 42)), (1, none, (.int .u8 108)), (2, none, (.int .u8 111)), (3, none, (.int .u8 116))] (repL 4 [.int .u8 0])) fun d h =>
  B.conv h (.sl d 0 0 4 1 4) fun e =>
  B.al a (B.pv (V.zg 1 a) fun f =>
  B.call C (N 423) [f, (.int .i64 8)] h fun g h =>
  B.newO h (zcr [(0, none, g)] (repL 1 [.nils])) fun i h =>
  B.zki h C c [e, (.sl i 0 0 1 1 1)] fun l h =>
  B.al a (B.pv (V.zg 3 a) fun b =>
  B.pv (V.zj b) fun j =>
  ze (z9.l19 C N Q k c b j a) [(.int .i64 0)] h))
@[simp] def z9.k21 (C : CSem) (N : zN) (Q : zQ) (i b a : AVal) (h : za) : Prop :=
 B.newO h (zcr [(0, none, (.int .u8 42)), (1, none, (.int .u8 108)), (2, none, (.int .u8 105)), (3, none, (.int .u8 110)), (4, none, (.int .u8 101))] (repL 5 [.int .u8 0])) fun c h =>
  B.conv h (.sl c 0 0 5 1 5) fun d =>
  B.al a (B.pv (V.zg 2 a) fun e =>
  B.call C (N 423) [e, (.int .i64 8)] h fun f h =>
  B.newO h (zcr [(0, none, f)] (repL 1 [.nils])) fun g h =>
  B.zki h C b [d, (.sl g 0 0 1 1 1)] fun j h =>
  z9.k20 C N Q i b a h)
@[simp] def z9.k22 (C : CSem) (N : zN) (Q : zQ) (i b a : AVal) (h : za) : Prop :=
 B.newO h (zcr [(0, none, (.int .u8 42)), (1, none, (.int .u8 100)), (2, none, (.int .u8 97)), (3, none, (.int .u8 121))] (repL 4 [.int .u8 0])) fun c h =>
  B.conv h (.sl c 0 0 4 1 4) fun d =>
  B.al a (B.pv (V.zg 0 a) fun e =>
  B.call C (N 423) [e, (.int .i64 2)] h fun f h =>
  B.newO h (zcr [(0, none, f)] (repL 1 [.nils])) fun g h =>
  B.zki h C b [d, (.sl g 0 0 1 1 1)] fun j h =>
  z9.k21 C N Q i b a h)
@[simp] def z9.k23 (C : CSem) (N : zN) (Q : zQ) (a : AVal) (h : za) : Prop :=
 B.pv (V.zcd 0 6 a) fun b =>
  B.call C (N 426) [b] h fun c h =>
  B.pv (V.un .not c) fun d =>
  B.cond d
  (Q .nils h)
  (B.newO h (some [.nils]) fun e h =>
  z9.k22 C N Q (.ptr e 0 0) (.fn (N 425) [] [(.ptr e 0 0)]) a h)
@[simp] def z9.cps (C : CSem) (N : zN) (a : AVal) (h : za) (Q : zQ) : Prop :=
 B.pv (A.boxN 6 a) fun b =>
  z9.k23 C N Q b h
def z9.Imp (C : CSem) (N : zN) : Prop := im1 C (N 412) (z9.cps C N)
@[simp] def zbd.k1 (C : CSem) (N : zN) (Q : zQ) (m b n : AVal) (h : za) : Prop :=
 B.pv (V.zcd 0 6 n) fun c =>
  B.call C (N 412) [c] h fun d h =>
  B.call C (N 431) [d, m, (.fn (N 430) [] [])] h fun e h =>
  B.pv (V.un .not e) fun a =>
  B.gd h a false (fun K => K m h) fun f h =>
  B.gd h a false (fun K => B.pv (V.zj f) fun v => K v h) fun g h =>
  B.gd h a false (fun K => B.pv (V.bin .eql g (.int .i64 0)) fun v => K v h) fun i h =>
  B.pick a (.bool true) i fun j =>
  B.cond j
  (B.pv (A.bld [] [.int .i64 0, .int .i64 0, .int .i64 0, .nils, .nils, .nils]) fun k =>
  B.pv (V.setN 0 6 k b) fun b =>
  B.pv (oneOf (ze9 (V.zcd 0 6 b) (ze9 (some (.int .i64 4)) (some [])))) fun v => Q v h)
  (B.pv (V.zcd 0 6 n) fun l =>
  B.pv (V.setN 0 6 l b) fun b =>
  B.pv (oneOf (ze9 (V.zcd 0 6 b) (ze9 (some (.int .i64 0)) (some [])))) fun v => Q v h)
@[simp] def zbd.k2 (C : CSem) (N : zN) (Q : zQ) (Y1 : zL) (t n o p r s m b q : AVal) (h : za) : Prop :=
 B.nilCheck o fun c =>
  B.pv (V.fieldAddr 1 c) fun d =>
  B.ld h d fun a =>
  B.gd h a false (fun K => K p h) fun e h =>
  B.gd h a false (fun K => B.nilCheck e fun v => K v h) fun f h =>
  B.gd h a false (fun K => B.pv (V.fieldAddr 1 f) fun v => K v h) fun g h =>
  B.gd h a false (fun K => B.ld h g fun v => K v h) fun i h =>
  B.pick a (.bool true) i fun j =>
  B.cond j
  (B.pv (A.bld [] [.int .i64 0, .int .i64 0, .int .i64 0, .nils, .nils, .nils]) fun k =>
  B.pv (V.setN 0 6 k b) fun b =>
  B.pv (oneOf (ze9 (V.zcd 0 6 b) (ze9 (some (.int .i64 4)) (some [])))) fun v => Q v h)
  (B.pv (V.bin .add m (.int .i64 1)) fun l =>
  Y1 [n, l, b, q] h)
@[simp] def zbd.k3 (C : CSem) (N : zN) (Q : zQ) (Y1 : zL) (i j b g c d e k a x : AVal) (h : za) : Prop :=
 B.al x (B.pv (V.zg 0 x) fun y =>
  B.zda h y fun f =>
  B.pv (V.bin .eql f (.str [42, 100, 97, 121])) fun z =>
  B.cond z
  (B.call C (N 432) [b, (.int .i64 2)] h fun aa h =>
  B.al a (B.pv (V.setF 0 aa a) fun a =>
  zbd.k2 C N Q Y1 i j b g c d e k a h))
  (B.pv (V.bin .eql f (.str [42, 108, 111, 116])) fun ab =>
  B.cond ab
  (B.call C (N 432) [b, (.int .i64 8)] h fun ac h =>
  B.al a (B.pv (V.setF 1 ac a) fun a =>
  zbd.k2 C N Q Y1 i j b g c d e k a h))
  (B.pv (V.bin .eql f (.str [42, 108, 105, 110, 101])) fun ad =>
  B.cond ad
  (B.call C (N 432) [b, (.int .i64 8)] h fun ae h =>
  B.al a (B.pv (V.setF 2 ae a) fun a =>
  zbd.k2 C N Q Y1 i j b g c d e k a h))
  (B.pv (V.zh8 f (.int .i64 0)) fun af =>
  B.pv (V.bin .eql af (.int .u8 105)) fun ag =>
  B.cond ag
  (B.al a (B.pv (V.zg 3 a) fun ah =>
  B.pv (V.zrm f (some (.int .i64 1)) none) fun ai =>
  B.call C (N 433) [b, ai] h fun aj h =>
  B.newO h (zcr [(0, some 4, aj)] (repL 1 [.str [], .int .i64 0, .nils, .nils])) fun ak h =>
  B.appW h 4 72 ah (.sl ak 0 0 1 4 1) fun am h =>
  B.al a (B.pv (V.setF 3 am a) fun a =>
  zbd.k2 C N Q Y1 i j b g c d e k a h)))
  (B.pv (V.zh8 f (.int .i64 0)) fun an =>
  B.pv (V.bin .eql an (.int .u8 108)) fun ao =>
  B.cond ao
  (B.al a (B.pv (V.zg 4 a) fun l =>
  B.call C (N 432) [g, (.int .i64 8)] h fun m h =>
  B.call C (N 434) [b, m] h fun n h =>
  B.newO h (zcr [(0, some 6, n)] (repL 1 [.int .i64 0, .str [], .int .i64 0, .int .i64 0, .int .i64 0, .bool false])) fun o h =>
  B.appW h 6 56 l (.sl o 0 0 1 6 1) fun p h =>
  B.al a (B.pv (V.setF 4 p a) fun a =>
  zbd.k2 C N Q Y1 i j b g c d e k a h)))
  (B.pv (V.zh8 f (.int .i64 0)) fun q =>
  B.pv (V.bin .eql q (.int .u8 111)) fun r =>
  B.cond r
  (B.al a (B.pv (V.zg 5 a) fun s =>
  B.call C (N 432) [g, (.int .i64 8)] h fun t h =>
  B.call C (N 435) [b, t] h fun u h =>
  B.newO h (zcr [(0, some 8, u)] (repL 1 [.int .i64 0, .str [], .int .i64 0, .int .i64 0, .int .i64 0, .int .u8 0, .int .i64 0, .str []])) fun v h =>
  B.appW h 8 80 s (.sl v 0 0 1 8 1) fun w h =>
  B.al a (B.pv (V.setF 5 w a) fun a =>
  zbd.k2 C N Q Y1 i j b g c d e k a h)))
  (B.nilCheck b fun ap =>
  B.pv (V.fieldAddr 1 ap) fun aq =>
  B.st h aq (.bool true) fun h =>
  zbd.k2 C N Q Y1 i j b g c d e k a h)))))))
@[simp] def zbd.k4 (C : CSem) (N : zN) (Q : zQ) (Y1 : zL) (m n b c d o p a : AVal) (h : za) : Prop :=
 B.al a (B.pv (V.zg 1 a) fun e =>
  B.pv (A.bld [(0, none, e)] [.nils, .bool false]) fun f =>
  B.al a (B.pv (V.zg 0 a) fun g =>
  B.pv (V.zgo 1 g (some (.int .i64 1)) none) fun i =>
  B.pv (A.bld [(0, none, i)] [.nils, .bool false]) fun j =>
  B.newO h (A.zjp 2 f) fun k h =>
  B.newO h (A.zjp 2 j) fun l h =>
  zbd.k3 C N Q Y1 m n (.ptr k 0 0) (.ptr l 0 0) b c d o p a h))
@[simp] def zbd.k5 (C : CSem) (N : zN) (Q : zQ) (Y1 : zL) (i j a b c k l d : AVal) (h : za) : Prop :=
 B.pv (V.zcd 0 2 d) fun e =>
  B.newO h (zcr [(0, some 2, e)] (repL 1 [.nils, .nils])) fun f h =>
  B.appW h 2 48 j (.sl f 0 0 1 2 1) fun g h =>
  zbd.k4 C N Q Y1 i g a b c k l d h
@[simp] def zbd.k6 (C : CSem) (N : zN) (Q : zQ) (Y1 : zL) (n d e f a g i b : AVal) (h : za) : Prop :=
 B.al b (B.pv (V.zg 0 b) fun j =>
  B.pv (V.idxS 1 j (.int .i64 0)) fun k =>
  B.ld h k fun l =>
  B.pv (V.bin .eql l (.int .u8 97)) fun m =>
  B.cond m
  (B.pv (V.bin .add a (.int .i64 1)) fun c =>
  Y1 [d, c, g, i] h)
  (zbd.k5 C N Q Y1 n d e f a g i b h))
@[simp] def zbd.k7 (C : CSem) (N : zN) (Q : zQ) (Y1 : zL) (e z f g i j d c4 c : AVal) (h : za) : Prop :=
 B.pv (V.bin .gtr f (.int .i64 0)) fun a =>
  B.gd h a true (fun K => K e h) fun k h =>
  B.gd h a true (fun K => K f h) fun l h =>
  B.gd h a true (fun K => B.pv (V.bin .sub l (.int .i64 1)) fun v => K v h) fun m h =>
  B.gd h a true (fun K => B.pv (V.idxS 2 k m) fun v => K v h) fun n h =>
  B.gd h a true (fun K => B.pv (V.fieldAddr 0 n) fun v => K v h) fun o h =>
  B.gd h a true (fun K => B.ld h o fun v => K v h) fun p h =>
  B.al c (B.gd h a true (fun K => K .undef h) fun _ h =>
  B.gd h a true (fun K => B.pv (V.zg 0 c) fun v => K v h) fun q h =>
  B.gd h a true (fun K => B.call C (N 274) [p, q] h K) fun r h =>
  B.gd h a true (fun K => B.pv (V.bin .geq r (.int .i64 0)) fun v => K v h) fun s h =>
  B.pick a s (.bool false) fun b =>
  B.al c (B.gd h b false (fun K => K .undef h) fun _ h =>
  B.gd h b false (fun K => B.pv (V.zg 0 c) fun v => K v h) fun t h =>
  B.gd h b false (fun K => B.pv (V.zj t) fun v => K v h) fun u h =>
  B.gd h b false (fun K => B.pv (V.bin .eql u (.int .i64 0)) fun v => K v h) fun w h =>
  B.pick b (.bool true) w fun x =>
  B.cond x
  (B.pv (A.bld [] [.int .i64 0, .int .i64 0, .int .i64 0, .nils, .nils, .nils]) fun y =>
  B.pv (V.setN 0 6 y d) fun d =>
  B.pv (oneOf (ze9 (V.zcd 0 6 d) (ze9 (some (.int .i64 4)) (some [])))) fun v => Q v h)
  (zbd.k6 C N Q Y1 e z g i j d c4 c h)))
@[simp] def zbd.k8 (C : CSem) (N : zN) (Q : zQ) (Y1 : zL) (f g b c a i j : AVal) (h : za) : Prop :=
 B.pv (V.idxS 2 b a) fun d =>
  B.ldn h d 2 fun e =>
  B.pv (V.setN 0 2 e (.agg [.nils, .nils])) fun k =>
  zbd.k7 C N Q Y1 f g a b c a i j k h
@[simp] def zbd.l9 (C : CSem) (N : zN) (Q : zQ) (i c a : AVal) : zG
 | [d, b, e, f], h, Y1 => B.pv (V.bin .lss b a) fun g =>
  B.cond g
  (zbd.k8 C N Q Y1 i d c a b e f h)
  (zbd.k1 C N Q d e f h)
 | _, _, _ => False
@[simp] def zbd.k10 (C : CSem) (N : zN) (Q : zQ) (a c : AVal) (h : za) : Prop :=
 B.pv (V.zj a) fun b =>
  ze (zbd.l9 C N Q a a b) [.nils, (.int .i64 0), c, (.agg [.int .i64 0, .int .i64 0, .int .i64 0, .nils, .nils, .nils])] h
@[simp] def zbd.cps (C : CSem) (N : zN) (a : AVal) (h : za) (Q : zQ) : Prop :=
 zbd.k10 C N Q a (.agg [.int .i64 0, .int .i64 0, .int .i64 0, .nils, .nils, .nils]) h
def zbd.Imp (C : CSem) (N : zN) : Prop := im1 C (N 413) (zbd.cps C N)
@[simp] def zbl.k1 (C : CSem) (N : zN) (Q : zQ) (e f b : AVal) (h : za) : Prop :=
 B.call C (N 38) [e] h fun c h =>
  B.pv (V.ext 0 c) fun g =>
  B.pv (V.ext 1 c) fun i =>
  B.pv (V.ext 2 c) fun j =>
  B.pv (V.setN 0 7 g (.agg [.int .i64 0, .int .i64 0, .int .i64 0, .str [], .int .u8 0, .nils, .nils])) fun k =>
  B.pv (V.un .not f) fun d =>
  B.gd h d false (fun K => K j h) fun l h =>
  B.gd h d false (fun K => B.pv (V.bin .neq l (.int .i64 0)) fun v => K v h) fun m h =>
  B.pick d (.bool true) m fun a =>
  B.gd h a false (fun K => K i h) fun n h =>
  B.gd h a false (fun K => K e h) fun o h =>
  B.gd h a false (fun K => B.pv (V.zj o) fun v => K v h) fun p h =>
  B.gd h a false (fun K => B.pv (V.bin .neq n p) fun v => K v h) fun q h =>
  B.pick a (.bool true) q fun r =>
  B.cond r
  (B.pv (A.bld [] [.int .i64 0, .int .i64 0, .int .i64 0, .str [], .int .u8 0, .nils, .nils]) fun s =>
  B.pv (V.setN 0 7 s b) fun b =>
  B.pv (oneOf (ze9 (V.zcd 0 7 b) (ze9 (some (.bool false)) (some [])))) fun v => Q v h)
  (B.pv (V.zcd 0 7 k) fun t =>
  B.pv (V.setN 0 7 t b) fun b =>
  B.pv (oneOf (ze9 (V.zcd 0 7 b) (ze9 (some (.bool true)) (some [])))) fun v => Q v h)
@[simp] def zbl.k2 (C : CSem) (N : zN) (Q : zQ) (Y1 : zL) (v0 v1 l k g b m n i c6 : AVal) (h : za) : Prop :=
 B.pv (V.bin .lss i n) fun o =>
  B.cond o
  (B.pv (V.idxS 2 m i) fun p =>
  B.ldn h p 2 fun q =>
  B.pv (V.setN 0 2 q (.agg [.nils, .nils])) fun a =>
  B.al a (B.pv (V.zg 0 a) fun r =>
  B.pv (V.zj r) fun s =>
  B.pv (V.zj l) fun t =>
  B.pv (V.bin .neq s t) fun c =>
  B.al a (B.gd h c false (fun K => K .undef h) fun _ h =>
  B.gd h c false (fun K => B.pv (V.zg 0 a) fun v => K v h) fun u h =>
  B.gd h c false (fun K => K l h) fun w h =>
  B.gd h c false (fun K => B.pv (V.zgo 1 w none (some (.int .i64 10))) fun v => K v h) fun x h =>
  B.gd h c false (fun K => B.call C (N 436) [u, x] h K) fun y h =>
  B.gd h c false (fun K => B.pv (V.un .not y) fun v => K v h) fun z h =>
  B.pick c (.bool true) z fun aa =>
  B.cond aa
  (B.pv (V.bin .add i (.int .i64 1)) fun j =>
  Y1 [k, g, b, j] h)
  (B.al a (B.gd h b true (fun K => K .undef h) fun _ h =>
  B.gd h b true (fun K => B.pv (V.zg 0 a) fun v => K v h) fun ab h =>
  B.gd h b true (fun K => K v0 h) fun ac h =>
  B.gd h b true (fun K => K v1 h) fun ad h =>
  B.gd h b true (fun K => K g h) fun ae h =>
  B.gd h b true (fun K => B.call C (N 427) [ac, ad, ae] h K) fun af h =>
  B.gd h b true (fun K => B.call C (N 273) [ab, af] h K) fun ag h =>
  B.pick b ag (.bool false) fun d =>
  B.gd h d true (fun K => K k h) fun ah h =>
  B.gd h d true (fun K => B.pv (V.zj ah) fun v => K v h) fun ai h =>
  B.gd h d true (fun K => K g h) fun aj h =>
  B.gd h d true (fun K => B.pv (V.bin .mul aj (.int .i64 180)) fun v => K v h) fun ak h =>
  B.gd h d true (fun K => B.pv (V.bin .eql ai ak) fun v => K v h) fun am h =>
  B.pick d am (.bool false) fun e =>
  B.al a (B.gd h e true (fun K => K .undef h) fun _ h =>
  B.gd h e true (fun K => B.pv (V.zg 1 a) fun v => K v h) fun an h =>
  B.gd h e true (fun K => B.pv (V.zj an) fun v => K v h) fun ao h =>
  B.gd h e true (fun K => B.pv (V.bin .gtr ao (.int .i64 0)) fun v => K v h) fun ap h =>
  B.pick e ap (.bool false) fun f =>
  B.al a (B.gd h f true (fun K => K .undef h) fun _ h =>
  B.gd h f true (fun K => B.pv (V.zg 1 a) fun v => K v h) fun aq h =>
  B.gd h f true (fun K => B.pv (V.zj aq) fun v => K v h) fun ar h =>
  B.gd h f true (fun K => B.pv (V.bin .leq ar (.int .i64 180)) fun v => K v h) fun au h =>
  B.pick f au (.bool false) fun av =>
  B.al a (B.pv (V.zg 1 a) fun aw =>
  B.appW h 1 1 k aw fun ax h =>
  B.pv (V.bin .add g (.int .i64 1)) fun ay =>
  B.pv (V.bin .add i (.int .i64 1)) fun j =>
  Y1 [ax, ay, av, j] h))))))))
  (zbl.k1 C N Q k b c6 h)
@[simp] def zbl.l3 (C : CSem) (N : zN) (Q : zQ) (f g i a b j : AVal) : zG
 | [k, c, d, e], h, Y1 => zbl.k2 C N Q Y1 f g i k c d a b e j h
 | _, _, _ => False
@[simp] def zbl.k4 (C : CSem) (N : zN) (Q : zQ) (g i b c a : AVal) (h : za) : Prop :=
 B.pv (V.eqSl .eql c .nils) fun d =>
  B.cond d
  (B.pv (A.bld [] [.int .i64 0, .int .i64 0, .int .i64 0, .str [], .int .u8 0, .nils, .nils]) fun e =>
  B.pv (V.setN 0 7 e a) fun a =>
  B.pv (oneOf (ze9 (V.zcd 0 7 a) (ze9 (some (.bool false)) (some [])))) fun v => Q v h)
  (B.pv (V.zj b) fun f =>
  ze (zbl.l3 C N Q g i c b f a) [.nils, (.int .i64 0), (.bool true), (.int .i64 0)] h)
@[simp] def zbl.k5 (C : CSem) (N : zN) (Q : zQ) (a b d : AVal) (h : za) : Prop :=
 B.call C (N 427) [a, b, (.int .i64 0)] h fun c h =>
  zbl.k4 C N Q a b d c (.agg [.int .i64 0, .int .i64 0, .int .i64 0, .str [], .int .u8 0, .nils, .nils]) h
@[simp] def zbl.cps (C : CSem) (N : zN) (a b c : AVal) (h : za) (Q : zQ) : Prop :=
 zbl.k5 C N Q a b c h
def zbl.Imp (C : CSem) (N : zN) : Prop := im3 C (N 414) (zbl.cps C N)
@[simp] def zca.k1 (C : CSem) (N : zN) (Q : zQ) (Z1 : Nat -> za -> Prop) (n o a b : AVal) (h : za) : Prop :=
 B.ld h a fun c =>
  B.ld h n fun d =>
  B.ld h o fun e =>
  B.ld h a fun f =>
  B.pv (V.zj f) fun g =>
  B.call C (N 427) [d, e, g] h (B.zk5 h [(a, none)] (fun i h => B.call C (N 428) [b] h (B.zk5 h [(a, none)] (fun j h => B.pv (A.bld [(0, none, i), (1, none, j)] [.nils, .nils]) fun k =>
  B.newO h (zcr [(0, some 2, k)] (repL 1 [.nils, .nils])) fun l h =>
  B.appW h 2 48 c (.sl l 0 0 1 2 1) fun m h =>
  B.st h a m fun h =>
  Z1 0 h))))
@[simp] def zca.r2 (C : CSem) (N : zN) (Q : zQ) (c d a : AVal) (b : AVal) (h : za) (Z1 : Nat -> za -> Prop) : Prop :=
 zca.k1 C N Q Z1 c d a b h
@[simp] def zca.k3 (C : CSem) (N : zN) (Q : zQ) (e f g a : AVal) (h : za) : Prop :=
 B.call C (N 429) [g, (.int .i64 180)] h fun b h =>
  zwk C b (W1 fun c h Z1 => zca.r2 C N Q e f a c h Z1) h (RK [(0, fun h => B.ld h a fun d =>
  Q (.tup [d, (.int .i64 0)]) h)])
@[simp] def zca.k4 (C : CSem) (N : zN) (Q : zQ) (b c k l : AVal) (h : za) : Prop :=
 B.pv (V.bin .neq l (.int .i64 0)) fun a =>
  B.gd h a false (fun K => B.ld h b fun v => K v h) fun d h =>
  B.gd h a false (fun K => B.ld h c fun v => K v h) fun e h =>
  B.gd h a false (fun K => B.call C (N 427) [d, e, (.int .i64 0)] h K) fun f h =>
  B.gd h a false (fun K => B.pv (V.eqSl .eql f .nils) fun v => K v h) fun g h =>
  B.pick a (.bool true) g fun i =>
  B.cond i
  (Q (.tup [.nils, (.int .i64 2)]) h)
  (B.newO h (some [.nils]) fun j h =>
  zca.k3 C N Q b c k (.ptr j 0 0) h)
@[simp] def zca.k5 (C : CSem) (N : zN) (Q : zQ) (e f g : AVal) (h : za) : Prop :=
 B.pv (V.zcd 0 7 g) fun b =>
  B.call C (N 28) [b] h fun a h =>
  B.pv (V.ext 0 a) fun c =>
  B.pv (V.ext 1 a) fun d =>
  zca.k4 C N Q e f c d h
@[simp] def zca.k6 (C : CSem) (N : zN) (Q : zQ) (a b c : AVal) (h : za) : Prop :=
 B.newO h (A.znq a) fun d h =>
  B.newO h (A.znq b) fun e h =>
  B.pv (A.boxN 7 c) fun f =>
  zca.k5 C N Q (.ptr d 0 0) (.ptr e 0 0) f h
@[simp] def zca.cps (C : CSem) (N : zN) (a b c : AVal) (h : za) (Q : zQ) : Prop :=
 zca.k6 C N Q a b c h
def zca.Imp (C : CSem) (N : zN) : Prop := im3 C (N 415) (zca.cps C N)
@[simp] def zcm.k1 (C : CSem) (N : zN) (Q : zQ) (Y1 : zL) (m n b c a : AVal) (h : za) : Prop :=
 B.pv (V.bin .lss a c) fun d =>
  B.cond d
  (B.pv (V.bin .sub n (.int .i64 1)) fun e =>
  B.pv (V.bin .sub e a) fun f =>
  B.pv (V.bin .mul (.int .i64 8) f) fun g =>
  B.pv (V.bin .shr m g) fun i =>
  B.pv (V.toInt .u8 i) fun j =>
  B.pv (V.idxS 1 b a) fun k =>
  B.st h k j fun h =>
  B.pv (V.bin .add a (.int .i64 1)) fun l =>
  Y1 [l] h)
  (Q b h)
@[simp] def zcm.l2 (C : CSem) (N : zN) (Q : zQ) (c d e a : AVal) : zG
 | [b], h, Y1 => zcm.k1 C N Q Y1 c d e a b h
 | _, _, _ => False
@[simp] def zcm.cps (C : CSem) (N : zN) (d a : AVal) (h : za) (Q : zQ) : Prop :=
 0 < 1 /\ B.mks h 1 (some [.int .u8 0]) a a fun b h =>
  B.pv (V.zj b) fun c =>
  ze (zcm.l2 C N Q d a b c) [(.int .i64 0)] h
def zcm.Imp (C : CSem) (N : zN) : Prop := im2 C (N 423) (zcm.cps C N)
@[simp] def zfb.cps (C : CSem) (N : zN) (a : AVal) (h : za) (Q : zQ) : Prop :=
 B.call C (N 439) [a] h fun b h =>
  Q b h
def zfb.Imp (C : CSem) (N : zN) : Prop := im1 C (N 424) (zfb.cps C N)
@[simp] def zep.k1 (C : CSem) (N : zN) (Q : zQ) (d e a : AVal) (h : za) : Prop :=
 B.ld h a fun f =>
  B.call C (N 424) [e] h (B.zk5 h [(a, none)] (fun g h => B.pv (A.bld [(0, none, d), (1, none, g)] [.nils, .nils]) fun i =>
  B.newO h (zcr [(0, some 2, i)] (repL 1 [.nils, .nils])) fun b h =>
  B.appW h 2 48 f (.sl b 0 0 1 2 1) fun c h =>
  B.st h a c fun h =>
  Q (.tup []) h))
@[simp] def zep.cps (C : CSem) (N : zN) (a b c : AVal) (h : za) (Q : zQ) : Prop :=
 zep.k1 C N Q a b c h
def zep.Imp (C : CSem) (N : zN) : Prop := im3 C (N 425) (zep.cps C N)
@[simp] def zb1.k1 (C : CSem) (N : zN) (Q : zQ) (Y1 : zL) (d aa e b c1 : AVal) (h : za) : Prop :=
 B.pv (V.bin .lss b e) fun f =>
  B.cond f
  (B.pv (V.idxS 8 aa b) fun g =>
  B.ldn h g 8 fun i =>
  B.pv (V.setN 0 8 i (.agg [.int .i64 0, .str [], .int .i64 0, .int .i64 0, .int .i64 0, .int .u8 0, .int .i64 0, .str []])) fun j =>
  B.gd h d true (fun K => B.pv (V.zcd 0 8 j) fun v => K v h) fun k h =>
  B.gd h d true (fun K => B.call C (N 179) [k] h K) fun l h =>
  B.pick d l (.bool false) fun c =>
  B.gd h c true (fun K => K b h) fun m h =>
  B.gd h c true (fun K => B.pv (V.bin .eql m (.int .i64 0)) fun v => K v h) fun n h =>
  B.gd h c true (fun K => K n h) fun a h =>
  B.al c1 (B.gd h a false (fun K => K .undef h) fun _ h =>
  B.gd h a false (fun K => B.pv (V.zg 5 c1) fun v => K v h) fun o h =>
  B.gd h a false (fun K => K b h) fun p h =>
  B.gd h a false (fun K => B.pv (V.bin .sub p (.int .i64 1)) fun v => K v h) fun q h =>
  B.gd h a false (fun K => B.pv (V.idxS 8 o q) fun v => K v h) fun r h =>
  B.gd h a false (fun K => B.pv (V.fieldAddr 0 r) fun v => K v h) fun s h =>
  B.gd h a false (fun K => B.ld h s fun v => K v h) fun t h =>
  B.al j (B.gd h a false (fun K => K .undef h) fun _ h =>
  B.gd h a false (fun K => B.pv (V.zg 0 j) fun v => K v h) fun u h =>
  B.gd h a false (fun K => B.pv (V.bin .lss t u) fun v => K v h) fun w h =>
  B.gd h c true (fun K => B.pick a (.bool true) w fun v => K v h) fun x h =>
  B.pick c x (.bool false) fun y =>
  B.pv (V.bin .add b (.int .i64 1)) fun z =>
  Y1 [y, z] h)))
  (Q d h)
@[simp] def zb1.l2 (C : CSem) (N : zN) (Q : zQ) (c a d : AVal) : zG
 | [e, b], h, Y1 => zb1.k1 C N Q Y1 e c a b d h
 | _, _, _ => False
@[simp] def zb1.k3 (C : CSem) (N : zN) (Q : zQ) (Y2 : zL) (e j k b d : AVal) (h : za) : Prop :=
 B.pv (V.bin .lss b k) fun l =>
  B.cond l
  (B.pv (V.idxS 6 j b) fun m =>
  B.ldn h m 6 fun n =>
  B.pv (V.setN 0 6 n (.agg [.int .i64 0, .str [], .int .i64 0, .int .i64 0, .int .i64 0, .bool false])) fun g =>
  B.gd h e true (fun K => B.pv (V.zcd 0 6 g) fun v => K v h) fun o h =>
  B.gd h e true (fun K => B.call C (N 52) [o] h K) fun p h =>
  B.pick e p (.bool false) fun c =>
  B.gd h c true (fun K => K b h) fun q h =>
  B.gd h c true (fun K => B.pv (V.bin .eql q (.int .i64 0)) fun v => K v h) fun r h =>
  B.gd h c true (fun K => K r h) fun a h =>
  B.al d (B.gd h a false (fun K => K .undef h) fun _ h =>
  B.gd h a false (fun K => B.pv (V.zg 4 d) fun v => K v h) fun s h =>
  B.gd h a false (fun K => K b h) fun t h =>
  B.gd h a false (fun K => B.pv (V.bin .sub t (.int .i64 1)) fun v => K v h) fun u h =>
  B.gd h a false (fun K => B.pv (V.idxS 6 s u) fun v => K v h) fun w h =>
  B.gd h a false (fun K => B.pv (V.fieldAddr 0 w) fun v => K v h) fun x h =>
  B.gd h a false (fun K => B.ld h x fun v => K v h) fun y h =>
  B.al g (B.gd h a false (fun K => K .undef h) fun _ h =>
  B.gd h a false (fun K => B.pv (V.zg 0 g) fun v => K v h) fun z h =>
  B.gd h a false (fun K => B.pv (V.bin .lss y z) fun v => K v h) fun aa h =>
  B.gd h c true (fun K => B.pick a (.bool true) aa fun v => K v h) fun ab h =>
  B.pick c ab (.bool false) fun ac =>
  B.pv (V.bin .add b (.int .i64 1)) fun ad =>
  Y2 [ac, ad] h)))
  (B.al d (B.pv (V.zg 5 d) fun f =>
  B.pv (V.zj f) fun i =>
  ze (zb1.l2 C N Q f i d) [e, (.int .i64 0)] h))
@[simp] def zb1.l4 (C : CSem) (N : zN) (Q : zQ) (a b d : AVal) : zG
 | [e, c], h, Y2 => zb1.k3 C N Q Y2 e a b c d h
 | _, _, _ => False
@[simp] def zb1.k5 (C : CSem) (N : zN) (Q : zQ) (Y3 : zL) (e i j b d : AVal) (h : za) : Prop :=
 B.pv (V.bin .lss b j) fun k =>
  B.cond k
  (B.pv (V.idxS 4 i b) fun l =>
  B.ldn h l 4 fun m =>
  B.pv (V.setN 0 4 m (.agg [.str [], .int .i64 0, .nils, .nils])) fun g =>
  B.gd h e true (fun K => B.pv (V.zcd 0 4 g) fun v => K v h) fun n h =>
  B.gd h e true (fun K => B.call C (N 438) [n] h K) fun o h =>
  B.pick e o (.bool false) fun c =>
  B.gd h c true (fun K => K b h) fun p h =>
  B.gd h c true (fun K => B.pv (V.bin .eql p (.int .i64 0)) fun v => K v h) fun q h =>
  B.gd h c true (fun K => K q h) fun a h =>
  B.al d (B.gd h a false (fun K => K .undef h) fun _ h =>
  B.gd h a false (fun K => B.pv (V.zg 3 d) fun v => K v h) fun r h =>
  B.gd h a false (fun K => K b h) fun s h =>
  B.gd h a false (fun K => B.pv (V.bin .sub s (.int .i64 1)) fun v => K v h) fun t h =>
  B.gd h a false (fun K => B.pv (V.idxS 4 r t) fun v => K v h) fun u h =>
  B.gd h a false (fun K => B.pv (V.fieldAddr 0 u) fun v => K v h) fun w h =>
  B.gd h a false (fun K => B.ld h w fun v => K v h) fun x h =>
  B.al g (B.gd h a false (fun K => K .undef h) fun _ h =>
  B.gd h a false (fun K => B.pv (V.zg 0 g) fun v => K v h) fun y h =>
  B.gd h a false (fun K => B.pv (V.bin .lss x y) fun v => K v h) fun z h =>
  B.gd h c true (fun K => B.pick a (.bool true) z fun v => K v h) fun aa h =>
  B.pick c aa (.bool false) fun ab =>
  B.pv (V.bin .add b (.int .i64 1)) fun ac =>
  Y3 [ab, ac] h)))
  (B.al d (B.pv (V.zg 4 d) fun f =>
  B.pv (V.zj f) fun ad =>
  ze (zb1.l4 C N Q f ad d) [e, (.int .i64 0)] h))
@[simp] def zb1.l6 (C : CSem) (N : zN) (Q : zQ) (a b d : AVal) : zG
 | [e, c], h, Y3 => zb1.k5 C N Q Y3 e a b c d h
 | _, _, _ => False
@[simp] def zb1.k7 (C : CSem) (N : zN) (Q : zQ) (a : AVal) (h : za) : Prop :=
 B.al a (B.pv (V.zg 0 a) fun i =>
  B.pv (V.bin .geq i (.int .i64 0)) fun b =>
  B.al a (B.gd h b true (fun K => K .undef h) fun _ h =>
  B.gd h b true (fun K => B.pv (V.zg 0 a) fun v => K v h) fun j h =>
  B.gd h b true (fun K => B.pv (V.bin .leq j (.int .i64 4000)) fun v => K v h) fun k h =>
  B.pick b k (.bool false) fun c =>
  B.al a (B.gd h c true (fun K => K .undef h) fun _ h =>
  B.gd h c true (fun K => B.pv (V.zg 1 a) fun v => K v h) fun l h =>
  B.gd h c true (fun K => B.pv (V.bin .gtr l (.int .i64 0)) fun v => K v h) fun m h =>
  B.pick c m (.bool false) fun d =>
  B.al a (B.gd h d true (fun K => K .undef h) fun _ h =>
  B.gd h d true (fun K => B.pv (V.zg 1 a) fun v => K v h) fun n h =>
  B.gd h d true (fun K => B.pv (V.bin .leq n (.int .i64 4611686018427387904)) fun v => K v h) fun o h =>
  B.pick d o (.bool false) fun e =>
  B.al a (B.gd h e true (fun K => K .undef h) fun _ h =>
  B.gd h e true (fun K => B.pv (V.zg 2 a) fun v => K v h) fun p h =>
  B.gd h e true (fun K => B.pv (V.bin .gtr p (.int .i64 0)) fun v => K v h) fun q h =>
  B.pick e q (.bool false) fun f =>
  B.al a (B.gd h f true (fun K => K .undef h) fun _ h =>
  B.gd h f true (fun K => B.pv (V.zg 2 a) fun v => K v h) fun r h =>
  B.gd h f true (fun K => B.pv (V.bin .leq r (.int .i64 4611686018427387904)) fun v => K v h) fun s h =>
  B.pick f s (.bool false) fun t =>
  B.al a (B.pv (V.zg 3 a) fun g =>
  B.pv (V.zj g) fun u =>
  ze (zb1.l6 C N Q g u a) [t, (.int .i64 0)] h)))))))
@[simp] def zb1.cps (C : CSem) (N : zN) (a : AVal) (h : za) (Q : zQ) : Prop :=
 B.pv (A.boxN 6 a) fun b =>
  zb1.k7 C N Q b h
def zb1.Imp (C : CSem) (N : zN) : Prop := im1 C (N 426) (zb1.cps C N)
@[simp] def zgq.k1 (C : CSem) (N : zN) (Q : zQ) (e f g : AVal) (h : za) : Prop :=
 B.pv (V.bin .lss e (.int .i64 0)) fun i =>
  B.gd h i false (fun K => K e h) fun j h =>
  B.gd h i false (fun K => B.pv (V.bin .geq j (.int .i64 4)) fun v => K v h) fun k h =>
  B.pick i (.bool true) k fun a =>
  B.gd h a false (fun K => K f h) fun l h =>
  B.gd h a false (fun K => B.pv (V.bin .lss l (.int .i64 1)) fun v => K v h) fun m h =>
  B.pick a (.bool true) m fun b =>
  B.gd h b false (fun K => K f h) fun n h =>
  B.gd h b false (fun K => B.pv (V.bin .gtr n (.int .i64 4611686018427387904)) fun v => K v h) fun o h =>
  B.pick b (.bool true) o fun c =>
  B.gd h c false (fun K => K g h) fun p h =>
  B.gd h c false (fun K => B.pv (V.bin .lss p (.int .i64 0)) fun v => K v h) fun q h =>
  B.pick c (.bool true) q fun d =>
  B.gd h d false (fun K => K g h) fun r h =>
  B.gd h d false (fun K => B.pv (V.bin .geq r (.int .i64 1000)) fun v => K v h) fun s h =>
  B.pick d (.bool true) s fun t =>
  B.cond t
  (Q .nils h)
  (B.pv (V.toInt .u8 e) fun u =>
  B.newO h (zcr [(0, none, (.int .u8 97)), (1, none, u)] (repL 2 [.int .u8 0])) fun w h =>
  B.call C (N 423) [f, (.int .i64 8)] h fun x h =>
  B.call C (N 423) [g, (.int .i64 2)] h fun y h =>
  B.newO h (zcr [(0, none, (.sl w 0 0 2 1 2)), (1, none, x), (2, none, y)] (repL 3 [.nils])) fun z h =>
  B.call C (N 424) [(.sl z 0 0 3 1 3)] h fun aa h =>
  Q aa h)
@[simp] def zgq.cps (C : CSem) (N : zN) (a b c : AVal) (h : za) (Q : zQ) : Prop :=
 zgq.k1 C N Q a b c h
def zgq.Imp (C : CSem) (N : zN) : Prop := im3 C (N 427) (zgq.cps C N)
@[simp] def zd5.k1 (C : CSem) (N : zN) (Q : zQ) (i j : AVal) (h : za) : Prop :=
 B.pv (A.boxN 2 i) fun b =>
  B.pv (A.boxN 2 j) fun c =>
  B.al b (B.pv (V.zg 0 b) fun k =>
  B.al c (B.pv (V.zg 0 c) fun l =>
  B.call C (N 273) [k, l] h fun a h =>
  B.al b (B.gd h a true (fun K => K .undef h) fun _ h =>
  B.gd h a true (fun K => B.pv (V.zg 1 b) fun v => K v h) fun d h =>
  B.al c (B.gd h a true (fun K => K .undef h) fun _ h =>
  B.gd h a true (fun K => B.pv (V.zg 1 c) fun v => K v h) fun e h =>
  B.gd h a true (fun K => B.call C (N 273) [d, e] h K) fun f h =>
  B.pick a f (.bool false) fun g =>
  Q g h))))
@[simp] def zd5.cps (C : CSem) (N : zN) (a b : AVal) (h : za) (Q : zQ) : Prop :=
 zd5.k1 C N Q a b h
def zd5.Imp (C : CSem) (N : zN) : Prop := im2 C (N 430) (zd5.cps C N)
@[simp] def zn.k1 (C : CSem) (N : zN) (Q : zQ) (a i j : AVal) (h : za) : Prop :=
 B.nilCheck a fun b =>
  B.pv (V.fieldAddr 0 b) fun c =>
  B.ld h c fun d =>
  B.pv (V.zgo 1 d (some i) none) fun e =>
  B.nilCheck a fun f =>
  B.pv (V.fieldAddr 0 f) fun g =>
  B.st h g e fun h =>
  Q j h
@[simp] def zn.k2 (C : CSem) (N : zN) (Q : zQ) (Y1 : zL) (m n b c d a : AVal) (h : za) : Prop :=
 B.pv (V.bin .lss a d) fun e =>
  B.cond e
  (B.pv (V.idxS 1 c a) fun f =>
  B.ld h f fun g =>
  B.pv (V.bin .shl b (.int .u64 8)) fun i =>
  B.pv (V.toInt .i64 g) fun j =>
  B.pv (V.bin .or i j) fun k =>
  B.pv (V.bin .add a (.int .i64 1)) fun l =>
  Y1 [k, l] h)
  (zn.k1 C N Q m n b h)
@[simp] def zn.l3 (C : CSem) (N : zN) (Q : zQ) (d e a b : AVal) : zG
 | [f, c], h, Y1 => zn.k2 C N Q Y1 d e f a b c h
 | _, _, _ => False
@[simp] def zn.k4 (C : CSem) (N : zN) (Q : zQ) (b c i : AVal) (h : za) : Prop :=
 B.nilCheck b fun d =>
  B.pv (V.fieldAddr 0 d) fun e =>
  B.ld h e fun f =>
  B.pv (V.zgo 1 f none (some c)) fun a =>
  B.pv (V.zj a) fun g =>
  ze (zn.l3 C N Q b c a g) [i, (.int .i64 0)] h
@[simp] def zn.k5 (C : CSem) (N : zN) (Q : zQ) (b c : AVal) (h : za) : Prop :=
 B.nilCheck b fun d =>
  B.pv (V.fieldAddr 1 d) fun e =>
  B.ld h e fun a =>
  B.gd h a false (fun K => K c h) fun f h =>
  B.gd h a false (fun K => K b h) fun g h =>
  B.gd h a false (fun K => B.nilCheck g fun v => K v h) fun i h =>
  B.gd h a false (fun K => B.pv (V.fieldAddr 0 i) fun v => K v h) fun j h =>
  B.gd h a false (fun K => B.ld h j fun v => K v h) fun k h =>
  B.gd h a false (fun K => B.pv (V.zj k) fun v => K v h) fun l h =>
  B.gd h a false (fun K => B.pv (V.bin .gtr f l) fun v => K v h) fun m h =>
  B.pick a (.bool true) m fun n =>
  B.nilCheck b fun o =>
  B.pv (V.fieldAddr 1 o) fun p =>
  B.st h p n fun h =>
  B.nilCheck b fun q =>
  B.pv (V.fieldAddr 1 q) fun r =>
  B.ld h r fun s =>
  B.cond s
  (Q (.int .i64 0) h)
  (zn.k4 C N Q b c (.int .i64 0) h)
@[simp] def zn.cps (C : CSem) (N : zN) (a b : AVal) (h : za) (Q : zQ) : Prop :=
 zn.k5 C N Q a b h
def zn.Imp (C : CSem) (N : zN) : Prop := im2 C (N 432) (zn.cps C N)
@[simp] def zba.k1 (C : CSem) (N : zN) (Q : zQ) (Y1 : zL) (d e c b : AVal) (h : za) : Prop :=
 B.pv (V.bin .gtr e (.int .i64 0)) fun a =>
  B.gd h a true (fun K => K d h) fun f h =>
  B.gd h a true (fun K => B.nilCheck f fun v => K v h) fun g h =>
  B.gd h a true (fun K => B.pv (V.fieldAddr 1 g) fun v => K v h) fun i h =>
  B.gd h a true (fun K => B.ld h i fun v => K v h) fun j h =>
  B.gd h a true (fun K => B.pv (V.un .not j) fun v => K v h) fun k h =>
  B.pick a k (.bool false) fun l =>
  B.cond l
  (B.al b (B.pv (V.zg 3 b) fun m =>
  B.call C (N 440) [d] h fun n h =>
  B.newO h (zcr [(0, none, n)] (repL 1 [.str []])) fun o h =>
  B.appW h 1 16 m (.sl o 0 0 1 1 1) fun p h =>
  B.al b (B.pv (V.setF 3 p b) fun b =>
  B.pv (V.bin .sub e (.int .i64 1)) fun q =>
  Y1 [q, b] h)))
  (B.pv (V.zcd 0 4 b) fun r =>
  B.pv (V.setN 0 4 r c) fun c =>
  B.pv (oneOf (ze9 (V.zcd 0 4 c) (some []))) fun v => Q v h)
@[simp] def zba.l2 (C : CSem) (N : zN) (Q : zQ) (a b : AVal) : zG
 | [c, d], h, Y1 => zba.k1 C N Q Y1 a c b d h
 | _, _, _ => False
@[simp] def zba.k3 (C : CSem) (N : zN) (Q : zQ) (Y2 : zL) (c e w b : AVal) (h : za) : Prop :=
 B.pv (V.bin .gtr e (.int .i64 0)) fun a =>
  B.gd h a true (fun K => K c h) fun f h =>
  B.gd h a true (fun K => B.nilCheck f fun v => K v h) fun g h =>
  B.gd h a true (fun K => B.pv (V.fieldAddr 1 g) fun v => K v h) fun i h =>
  B.gd h a true (fun K => B.ld h i fun v => K v h) fun j h =>
  B.gd h a true (fun K => B.pv (V.un .not j) fun v => K v h) fun k h =>
  B.pick a k (.bool false) fun l =>
  B.cond l
  (B.call C (N 440) [c] h fun m h =>
  B.pv (A.bld [(0, none, m)] [.str [], .int .i64 0]) fun n =>
  B.pv (V.setN 0 2 n (.agg [.str [], .int .i64 0])) fun d =>
  B.call C (N 432) [c, (.int .i64 4)] h fun o h =>
  B.al d (B.pv (V.setF 1 o d) fun d =>
  B.al b (B.pv (V.zg 2 b) fun p =>
  B.pv (V.zcd 0 2 d) fun q =>
  B.newO h (zcr [(0, some 2, q)] (repL 1 [.str [], .int .i64 0])) fun r h =>
  B.appW h 2 24 p (.sl r 0 0 1 2 1) fun s h =>
  B.al b (B.pv (V.setF 2 s b) fun b =>
  B.pv (V.bin .sub e (.int .i64 1)) fun t =>
  Y2 [t, b] h))))
  (B.call C (N 432) [c, (.int .i64 1)] h fun u h =>
  ze (zba.l2 C N Q c w) [u, b] h)
@[simp] def zba.l4 (C : CSem) (N : zN) (Q : zQ) (a b : AVal) : zG
 | [c, d], h, Y2 => zba.k3 C N Q Y2 a c b d h
 | _, _, _ => False
@[simp] def zba.k5 (C : CSem) (N : zN) (Q : zQ) (a e f : AVal) (h : za) : Prop :=
 B.call C (N 432) [a, (.int .i64 2)] h fun b h =>
  B.pv (A.bld [(0, none, e), (1, none, b)] [.str [], .int .i64 0, .nils, .nils]) fun c =>
  B.pv (V.setN 0 4 c (.agg [.str [], .int .i64 0, .nils, .nils])) fun g =>
  B.call C (N 432) [a, (.int .i64 1)] h fun d h =>
  ze (zba.l4 C N Q a f) [d, g] h
@[simp] def zba.cps (C : CSem) (N : zN) (a b : AVal) (h : za) (Q : zQ) : Prop :=
 zba.k5 C N Q a b (.agg [.str [], .int .i64 0, .nils, .nils]) h
def zba.Imp (C : CSem) (N : zN) : Prop := im2 C (N 433) (zba.cps C N)
@[simp] def zco.k1 (C : CSem) (N : zN) (Q : zQ) (b j : AVal) (h : za) : Prop :=
 B.call C (N 440) [b] h fun k h =>
  B.pv (A.bld [(0, none, j), (1, none, k)] [.int .i64 0, .str [], .int .i64 0, .int .i64 0, .int .i64 0, .bool false]) fun l =>
  B.pv (V.setN 0 6 l (.agg [.int .i64 0, .str [], .int .i64 0, .int .i64 0, .int .i64 0, .bool false])) fun a =>
  B.call C (N 432) [b, (.int .i64 2)] h fun c h =>
  B.call C (N 432) [b, (.int .i64 2)] h fun d h =>
  B.al a (B.al a (B.pv (V.setF 2 c a) fun a =>
  B.al a (B.al a (B.pv (V.setF 3 d a) fun a =>
  B.call C (N 432) [b, (.int .i64 4)] h fun e h =>
  B.al a (B.pv (V.setF 4 e a) fun a =>
  B.call C (N 432) [b, (.int .i64 1)] h fun f h =>
  B.pv (V.bin .eql f (.int .i64 1)) fun g =>
  B.al a (B.pv (V.setF 5 g a) fun a =>
  B.pv (V.zcd 0 6 a) fun i =>
  B.pv (V.setN 0 6 i (.agg [.int .i64 0, .str [], .int .i64 0, .int .i64 0, .int .i64 0, .bool false])) fun m =>
  B.pv (oneOf (ze9 (V.zcd 0 6 m) (some []))) fun v => Q v h))))))
@[simp] def zco.cps (C : CSem) (N : zN) (a b : AVal) (h : za) (Q : zQ) : Prop :=
 zco.k1 C N Q a b h
def zco.Imp (C : CSem) (N : zN) : Prop := im2 C (N 434) (zco.cps C N)
@[simp] def zcj.k1 (C : CSem) (N : zN) (Q : zQ) (b m : AVal) (h : za) : Prop :=
 B.call C (N 440) [b] h fun n h =>
  B.pv (A.bld [(0, none, m), (1, none, n)] [.int .i64 0, .str [], .int .i64 0, .int .i64 0, .int .i64 0, .int .u8 0, .int .i64 0, .str []]) fun o =>
  B.pv (V.setN 0 8 o (.agg [.int .i64 0, .str [], .int .i64 0, .int .i64 0, .int .i64 0, .int .u8 0, .int .i64 0, .str []])) fun a =>
  B.call C (N 432) [b, (.int .i64 4)] h fun c h =>
  B.al a (B.pv (V.setF 2 c a) fun a =>
  B.call C (N 432) [b, (.int .i64 2)] h fun d h =>
  B.call C (N 432) [b, (.int .i64 1)] h fun e h =>
  B.al a (B.pv (V.setF 3 d a) fun a =>
  B.al a (B.pv (V.setF 4 e a) fun a =>
  B.call C (N 432) [b, (.int .i64 1)] h fun f h =>
  B.pv (V.toInt .u8 f) fun g =>
  B.al a (B.pv (V.setF 5 g a) fun a =>
  B.call C (N 432) [b, (.int .i64 2)] h fun i h =>
  B.pv (V.bin .sub i (.int .i64 1)) fun j =>
  B.al a (B.pv (V.setF 6 j a) fun a =>
  B.call C (N 440) [b] h fun k h =>
  B.al a (B.pv (V.setF 7 k a) fun a =>
  B.pv (V.zcd 0 8 a) fun l =>
  B.pv (V.setN 0 8 l (.agg [.int .i64 0, .str [], .int .i64 0, .int .i64 0, .int .i64 0, .int .u8 0, .int .i64 0, .str []])) fun p =>
  B.pv (oneOf (ze9 (V.zcd 0 8 p) (some []))) fun v => Q v h))))))
@[simp] def zcj.cps (C : CSem) (N : zN) (a b : AVal) (h : za) (Q : zQ) : Prop :=
 zcj.k1 C N Q a b h
def zcj.Imp (C : CSem) (N : zN) : Prop := im2 C (N 435) (zcj.cps C N)
@[simp] def zdf.k1 (C : CSem) (N : zN) (Q : zQ) (g b : AVal) (h : za) : Prop :=
 B.al b (B.pv (V.zg 1 b) fun c =>
  B.pv (V.bin .eql c (.int .i64 0)) fun a =>
  B.gd h a true (fun K => K g h) fun d h =>
  B.gd h a true (fun K => B.call C (N 441) [(.int .i64 8), d] h K) fun e h =>
  B.pick a e (.bool false) fun f =>
  Q f h)
@[simp] def zdf.k2 (C : CSem) (N : zN) (Q : zQ) (Y1 : zL) (d e f c s : AVal) (h : za) : Prop :=
 B.pv (V.bin .lss c f) fun g =>
  B.cond g
  (B.pv (V.idxS 2 e c) fun i =>
  B.ldn h i 2 fun j =>
  B.pv (V.setN 0 2 j (.agg [.str [], .int .i64 0])) fun b =>
  B.al b (B.pv (V.zg 1 b) fun k =>
  B.pv (V.bin .lss k (.int .i64 1)) fun a =>
  B.al b (B.gd h a false (fun K => K .undef h) fun _ h =>
  B.gd h a false (fun K => B.pv (V.zg 1 b) fun v => K v h) fun l h =>
  B.gd h a false (fun K => B.pv (V.bin .gtr l (.int .i64 1073741824)) fun v => K v h) fun m h =>
  B.pick a (.bool true) m fun n =>
  B.cond n
  (Q (.bool false) h)
  (B.al b (B.pv (V.zg 0 b) fun o =>
  B.newO h (zcr [(0, none, o)] (repL 1 [.str []])) fun p h =>
  B.appW h 1 16 d (.sl p 0 0 1 1 1) fun q h =>
  B.pv (V.bin .add c (.int .i64 1)) fun r =>
  Y1 [q, r] h)))))
  (zdf.k1 C N Q d s h)
@[simp] def zdf.l3 (C : CSem) (N : zN) (Q : zQ) (a b d : AVal) : zG
 | [e, c], h, Y1 => zdf.k2 C N Q Y1 e a b c d h
 | _, _, _ => False
@[simp] def zdf.k4 (C : CSem) (N : zN) (Q : zQ) (a : AVal) (h : za) : Prop :=
 B.al a (B.pv (V.zg 2 a) fun d =>
  B.pv (V.zj d) fun e =>
  B.pv (V.bin .eql e (.int .i64 0)) fun f =>
  B.cond f
  (B.al a (B.pv (V.zg 1 a) fun g =>
  B.pv (V.bin .gtr g (.int .i64 0)) fun b =>
  B.al a (B.gd h b true (fun K => K .undef h) fun _ h =>
  B.gd h b true (fun K => B.pv (V.zg 1 a) fun v => K v h) fun i h =>
  B.gd h b true (fun K => B.pv (V.bin .leq i (.int .i64 2000)) fun v => K v h) fun j h =>
  B.pick b j (.bool false) fun k =>
  Q k h)))
  (B.al a (B.pv (V.zg 2 a) fun c =>
  B.pv (V.zj c) fun l =>
  ze (zdf.l3 C N Q c l a) [.nils, (.int .i64 0)] h)))
@[simp] def zdf.k5 (C : CSem) (N : zN) (Q : zQ) (a : AVal) (h : za) : Prop :=
 B.al a (B.pv (V.zg 0 a) fun f =>
  B.newO h (zcr [(0, none, f)] (repL 1 [.str []])) fun g h =>
  B.al a (B.pv (V.zg 3 a) fun b =>
  B.appW h 1 16 (.sl g 0 0 1 1 1) b fun c h =>
  B.call C (N 441) [(.int .i64 5), c] h fun d h =>
  B.pv (V.un .not d) fun e =>
  B.cond e
  (Q (.bool false) h)
  (zdf.k4 C N Q a h)))
@[simp] def zdf.cps (C : CSem) (N : zN) (a : AVal) (h : za) (Q : zQ) : Prop :=
 B.pv (A.boxN 4 a) fun b =>
  zdf.k5 C N Q b h
def zdf.Imp (C : CSem) (N : zN) : Prop := im1 C (N 438) (zdf.cps C N)
@[simp] def zcc.k1 (C : CSem) (N : zN) (Q : zQ) (a : AVal) (h : za) : Prop :=
 B.nilCheck a fun s =>
  B.pv (V.fieldAddr 1 s) fun t =>
  B.ld h t fun u =>
  B.cond u
  (Q (.str []) h)
  (B.nilCheck a fun c =>
  B.pv (V.fieldAddr 0 c) fun d =>
  B.ld h d fun e =>
  B.call C (N 103) [e] h fun b h =>
  B.pv (V.ext 0 b) fun f =>
  B.pv (V.ext 1 b) fun g =>
  B.pv (V.ext 2 b) fun i =>
  B.pv (V.un .not i) fun j =>
  B.nilCheck a fun k =>
  B.pv (V.fieldAddr 1 k) fun l =>
  B.st h l j fun h =>
  B.nilCheck a fun m =>
  B.pv (V.fieldAddr 0 m) fun n =>
  B.ld h n fun o =>
  B.pv (V.zgo 1 o (some g) none) fun p =>
  B.nilCheck a fun q =>
  B.pv (V.fieldAddr 0 q) fun r =>
  B.st h r p fun h =>
  Q f h)
@[simp] def zcc.cps (C : CSem) (N : zN) (a : AVal) (h : za) (Q : zQ) : Prop :=
 zcc.k1 C N Q a h
def zcc.Imp (C : CSem) (N : zN) : Prop := im1 C (N 440) (zcc.cps C N)
@[simp] def zdv.k1 (C : CSem) (N : zN) (Q : zQ) (Y1 : zL) (r d s t b : AVal) (h : za) : Prop :=
 B.pv (V.bin .lss b t) fun e =>
  B.cond e
  (B.pv (V.idxS 1 s b) fun f =>
  B.ld h f fun c =>
  B.call C (N 53) [c] h fun g h =>
  B.pv (V.un .not g) fun a =>
  B.gd h a false (fun K => K d h) fun i h =>
  B.gd h a false (fun K => K b h) fun j h =>
  B.gd h a false (fun K => B.pv (V.zgo 1 i none (some j)) fun v => K v h) fun k h =>
  B.gd h a false (fun K => K c h) fun l h =>
  B.gd h a false (fun K => B.call C (N 442) [k, l] h K) fun m h =>
  B.pick a (.bool true) m fun n =>
  B.cond n
  (Q (.bool false) h)
  (B.pv (V.bin .add b (.int .i64 1)) fun o =>
  Y1 [o] h))
  (B.pv (V.zj d) fun p =>
  B.pv (V.bin .leq p r) fun q =>
  Q q h)
@[simp] def zdv.l2 (C : CSem) (N : zN) (Q : zQ) (a b c d : AVal) : zG
 | [e], h, Y1 => zdv.k1 C N Q Y1 a b c d e h
 | _, _, _ => False
@[simp] def zdv.cps (C : CSem) (N : zN) (b a : AVal) (h : za) (Q : zQ) : Prop :=
 B.pv (V.zj a) fun c =>
  ze (zdv.l2 C N Q b a a c) [(.int .i64 0)] h
def zdv.Imp (C : CSem) (N : zN) : Prop := im2 C (N 441) (zdv.cps C N)
@[simp] def zhd.k1 (C : CSem) (E : zfj) (Q : zQ) (a m : AVal) (h : za) : Prop :=
 B.pv (V.capSl a) fun c =>
  B.pv (V.zj a) fun d =>
  B.pv (V.bin .sub c d) fun e =>
  B.pv (V.bin .sub m e) fun b =>
  B.pv (V.bin .gtr b (.int .i64 0)) fun f =>
  B.cond f
  (B.pv (V.capSl a) fun g =>
  B.pv (V.zgo E.es a none (some g)) fun i =>
  B.appZ h E.es E.bytes E.z i b fun j h =>
  B.pv (V.zj a) fun k =>
  B.pv (V.zgo E.es j none (some k)) fun l =>
  Q l h)
  (Q a h)
@[simp] def zhd.cps (C : CSem) (E : zfj) (b a : AVal) (h : za) (Q : zQ) : Prop :=
 B.pv (V.bin .lss a (.int .i64 0)) fun c =>
  B.cond c
  (False)
  (zhd.k1 C E Q b a h)
@[simp] def zlw.k1 (C : CSem) (E : zfj) (f1 : Nat) (Q : zQ) (b c : AVal) (h : za) : Prop :=
 B.newO h (A.znq b) fun d h =>
  B.newO h (A.znq c) fun a h =>
  B.ld h (.ptr a 0 0) fun e =>
  B.pv (V.bin .lss e (.int .i64 1)) fun f =>
  B.cond f
  (False)
  (Q (.fn f1 [] [(.ptr d 0 0), (.ptr a 0 0)]) h)
@[simp] def zlw.cps (C : CSem) (E : zfj) (f1 : Nat) (a b : AVal) (h : za) (Q : zQ) : Prop :=
 zlw.k1 C E f1 Q a b h
@[simp] def zme.cps (C : CSem) (E : zfj) (f1 : Nat) (a b : AVal) (h : za) (Q : zQ) : Prop :=
 B.call C f1 [a, b] h fun c h =>
  B.pv (V.bin .geq c (.int .i64 0)) fun d =>
  Q d h
@[simp] def zfa.k1 (C : CSem) (E : zfj) (Q : zQ) (Y1 : zL) (f g i a : AVal) (h : za) : Prop :=
 B.pv (V.bin .lss a i) fun j =>
  B.cond j
  (B.pv (V.idxS E.es f a) fun b =>
  E.ld h b fun c =>
  B.pv (V.bin .eql g c) fun d =>
  B.cond d
  (Q a h)
  (B.pv (V.bin .add a (.int .i64 1)) fun e =>
  Y1 [e] h))
  (Q (.int .i64 (-1)) h)
@[simp] def zfa.l2 (C : CSem) (E : zfj) (Q : zQ) (a b c : AVal) : zG
 | [d], h, Y1 => zfa.k1 C E Q Y1 a b c d h
 | _, _, _ => False
@[simp] def zfa.cps (C : CSem) (E : zfj) (a b : AVal) (h : za) (Q : zQ) : Prop :=
 B.pv (V.zj a) fun c =>
  ze (zfa.l2 C E Q a b c) [(.int .i64 0)] h
def zbp.cps (C : CSem) (N : zN) (a b : AVal) (h : za) (Q : zQ) : Prop :=
 zlw.cps C (opsS 1 (.int .u8 0) 0) (N 443) a b h Q
def zbp.Imp (C : CSem) (N : zN) : Prop := im2 C (N 429) (zbp.cps C N)
@[simp] def zb.k1 (C : CSem) (N : zN) (Q : zQ) (Y1 : zL) (o p b c a : AVal) (h : za) : Prop :=
 B.pv (V.bin .lss a c) fun d =>
  B.cond d
  (B.pv (V.idxS 2 b a) fun e =>
  B.ldn h e 2 fun f =>
  B.pv (V.setN 0 2 f (.agg [.nils, .nils])) fun q =>
  B.pv (V.idxS 2 o a) fun g =>
  B.ldn h g 2 fun i =>
  B.pv (V.setN 0 2 i (.agg [.nils, .nils])) fun r =>
  B.pv (V.zcd 0 2 q) fun j =>
  B.pv (V.zcd 0 2 r) fun k =>
  B.zki h C p [j, k] fun l h =>
  B.pv (V.un .not l) fun m =>
  B.cond m
  (Q (.bool false) h)
  (B.pv (V.bin .add a (.int .i64 1)) fun n =>
  Y1 [n] h))
  (Q (.bool true) h)
@[simp] def zb.l2 (C : CSem) (N : zN) (Q : zQ) (d e a b : AVal) : zG
 | [c], h, Y1 => zb.k1 C N Q Y1 d e a b c h
 | _, _, _ => False
@[simp] def zb.k3 (C : CSem) (N : zN) (Q : zQ) (a b g : AVal) (h : za) : Prop :=
 B.pv (V.zj a) fun c =>
  B.pv (V.zj b) fun d =>
  B.pv (V.bin .neq c d) fun e =>
  B.cond e
  (Q (.bool false) h)
  (B.pv (V.zj a) fun f =>
  ze (zb.l2 C N Q b g a f) [(.int .i64 0)] h)
@[simp] def zb.cps (C : CSem) (N : zN) (a b c : AVal) (h : za) (Q : zQ) : Prop :=
 zb.k3 C N Q a b c h
def zb.Imp (C : CSem) (N : zN) : Prop := im3 C (N 431) (zb.cps C N)
@[simp] def zh.k1 (C : CSem) (N : zN) (Q : zQ) (Y1 : zL) (b c d a : AVal) (h : za) : Prop :=
 B.pv (V.bin .lss a d) fun e =>
  B.cond e
  (B.pv (V.idxS 1 c a) fun f =>
  B.ld h f fun g =>
  B.appW h 1 1 b g fun i h =>
  B.pv (V.bin .add a (.int .i64 1)) fun j =>
  Y1 [i, j] h)
  (Q b h)
@[simp] def zh.l2 (C : CSem) (N : zN) (Q : zQ) (a b : AVal) : zG
 | [d, c], h, Y1 => zh.k1 C N Q Y1 d a b c h
 | _, _, _ => False
@[simp] def zh.k3 (C : CSem) (N : zN) (Q : zQ) (Y2 : zL) (c d o e a : AVal) (h : za) : Prop :=
 B.pv (V.bin .lss a e) fun f =>
  B.cond f
  (B.pv (V.idxS 1 o a) fun g =>
  B.ld h g fun i =>
  B.pv (V.zj i) fun j =>
  B.pv (V.bin .add d j) fun b =>
  B.pv (V.bin .lss b (.int .i64 0)) fun k =>
  B.cond k
  (False)
  (B.pv (V.bin .add a (.int .i64 1)) fun l =>
  Y2 [b, l] h))
  (B.call C (N 444) [.nils, d] h fun m h =>
  B.pv (V.zj c) fun n =>
  ze (zh.l2 C N Q c n) [m, (.int .i64 0)] h)
@[simp] def zh.l4 (C : CSem) (N : zN) (Q : zQ) (c d a : AVal) : zG
 | [e, b], h, Y2 => zh.k3 C N Q Y2 c e d a b h
 | _, _, _ => False
@[simp] def zh.cps (C : CSem) (N : zN) (a : AVal) (h : za) (Q : zQ) : Prop :=
 B.pv (V.zj a) fun b =>
  ze (zh.l4 C N Q a a b) [(.int .i64 0), (.int .i64 0)] h
def zh.Imp (C : CSem) (N : zN) : Prop := im1 C (N 439) (zh.cps C N)
def zu.cps (C : CSem) (N : zN) (a b : AVal) (h : za) (Q : zQ) : Prop :=
 zme.cps C (opsS 16 (.str []) 0) (N 445) a b h Q
def zu.Imp (C : CSem) (N : zN) : Prop := im2 C (N 442) (zu.cps C N)
@[simp] def zt.k1 (C : CSem) (N : zN) (Q : zQ) (Y1 : zL) (r c d a : AVal) (h : za) : Prop :=
 B.ld h c fun s =>
  B.pv (V.zj s) fun t =>
  B.pv (V.bin .lss a t) fun u =>
  B.cond u
  (B.ld h d fun e =>
  B.ld h c fun f =>
  B.pv (V.zgo 1 f (some a) none) fun g =>
  B.pv (V.zj g) fun i =>
  B.pv (V.min2 e i) fun b =>
  B.ld h c fun j =>
  B.pv (V.bin .add a b) fun k =>
  B.pv (V.bin .add a b) fun l =>
  B.pv (V.cut3 1 j a k l) fun m =>
  B.zki h C r [m] fun n h =>
  B.pv (V.un .not n) fun o =>
  B.cond o
  (Q (.tup []) h)
  (B.ld h d fun p =>
  B.pv (V.bin .add a p) fun q =>
  Y1 [q] h))
  (Q (.tup []) h)
@[simp] def zt.l2 (C : CSem) (N : zN) (Q : zQ) (a b c : AVal) : zG
 | [d], h, Y1 => zt.k1 C N Q Y1 a b c d h
 | _, _, _ => False
@[simp] def zt.cps (C : CSem) (N : zN) (a b c : AVal) (h : za) (Q : zQ) : Prop :=
 ze (zt.l2 C N Q a b c) [(.int .i64 0)] h
def zt.Imp (C : CSem) (N : zN) : Prop := im3 C (N 443) (zt.cps C N)
def zbr.cps (C : CSem) (N : zN) (a b : AVal) (h : za) (Q : zQ) : Prop :=
 zhd.cps C (opsS 1 (.int .u8 0) 0) a b h Q
def zbr.Imp (C : CSem) (N : zN) : Prop := im2 C (N 444) (zbr.cps C N)
def zbc.cps (C : CSem) (N : zN) (a b : AVal) (h : za) (Q : zQ) : Prop :=
 zfa.cps C (opsS 16 (.str []) 0) a b h Q
def zbc.Imp (C : CSem) (N : zN) : Prop := im2 C (N 445) (zbc.cps C N)
@[simp] def zcb.k1 (C : CSem) (N : zN) (Q : zQ) (Y1 : zL) (f g i b : AVal) (h : za) : Prop :=
 B.pv (V.bin .lss b i) fun j =>
  B.cond j
  (B.pv (V.idxS 3 g b) fun k =>
  B.ldn h k 3 fun l =>
  B.pv (V.setN 0 3 l (.agg [.int .i64 0, .int .i64 0, .int .i64 0])) fun a =>
  B.al a (B.pv (V.zg 0 a) fun m =>
  B.call C (N 50) [f, m, (.int .i64 8)] h fun n h =>
  B.al a (B.pv (V.zg 1 a) fun o =>
  B.call C (N 50) [n, o, (.int .i64 8)] h fun p h =>
  B.al a (B.pv (V.zg 2 a) fun c =>
  B.call C (N 50) [p, c, (.int .i64 8)] h fun d h =>
  B.pv (V.bin .add b (.int .i64 1)) fun e =>
  Y1 [d, e] h))))
  (Q (.tup [f, (.int .i64 0)]) h)
@[simp] def zcb.l2 (C : CSem) (N : zN) (Q : zQ) (a b : AVal) : zG
 | [d, c], h, Y1 => zcb.k1 C N Q Y1 d a b c h
 | _, _, _ => False
@[simp] def zcb.k3 (C : CSem) (N : zN) (Q : zQ) (g a : AVal) (h : za) : Prop :=
 B.al a (B.pv (V.zg 6 a) fun c =>
  B.pv (V.zj c) fun d =>
  B.call C (N 50) [g, d, (.int .i64 2)] h fun e h =>
  B.al a (B.pv (V.zg 6 a) fun b =>
  B.pv (V.zj b) fun f =>
  ze (zcb.l2 C N Q b f) [e, (.int .i64 0)] h))
@[simp] def zcb.k4 (C : CSem) (N : zN) (Q : zQ) (Y2 : zL) (f g i b x : AVal) (h : za) : Prop :=
 B.pv (V.bin .lss b i) fun j =>
  B.cond j
  (B.pv (V.idxS 6 g b) fun k =>
  B.ldn h k 6 fun l =>
  B.pv (V.setN 0 6 l (.agg [.int .i64 0, .str [], .int .i64 0, .int .i64 0, .int .i64 0, .bool false])) fun a =>
  B.al a (B.pv (V.zg 0 a) fun m =>
  B.call C (N 50) [f, m, (.int .i64 8)] h fun n h =>
  B.al a (B.pv (V.zg 1 a) fun o =>
  B.call C (N 51) [o] h fun p h =>
  B.appW h 1 1 n p fun q h =>
  B.al a (B.al a (B.pv (V.zg 2 a) fun r =>
  B.call C (N 50) [q, r, (.int .i64 2)] h fun s h =>
  B.al a (B.al a (B.pv (V.zg 3 a) fun t =>
  B.call C (N 50) [s, t, (.int .i64 2)] h fun u h =>
  B.al a (B.pv (V.zg 4 a) fun v =>
  B.call C (N 50) [u, v, (.int .i64 8)] h fun e h =>
  B.al a (B.pv (V.zg 5 a) fun w =>
  B.cond w
  (B.call C (N 50) [e, (.int .i64 1), (.int .i64 1)] h fun c h =>
  B.pv (V.bin .add b (.int .i64 1)) fun d =>
  Y2 [c, d] h)
  (B.call C (N 50) [e, (.int .i64 0), (.int .i64 1)] h fun c h =>
  B.pv (V.bin .add b (.int .i64 1)) fun d =>
  Y2 [c, d] h))))))))))
  (zcb.k3 C N Q f x h)
@[simp] def zcb.l5 (C : CSem) (N : zN) (Q : zQ) (a b d : AVal) : zG
 | [e, c], h, Y2 => zcb.k4 C N Q Y2 e a b c d h
 | _, _, _ => False
@[simp] def zcb.k6 (C : CSem) (N : zN) (Q : zQ) (g a : AVal) (h : za) : Prop :=
 B.al a (B.pv (V.zg 5 a) fun c =>
  B.pv (V.zj c) fun d =>
  B.call C (N 50) [g, d, (.int .i64 2)] h fun e h =>
  B.al a (B.pv (V.zg 5 a) fun b =>
  B.pv (V.zj b) fun f =>
  ze (zcb.l5 C N Q b f a) [e, (.int .i64 0)] h))
@[simp] def zcb.k7 (C : CSem) (N : zN) (Q : zQ) (e a : AVal) (h : za) : Prop :=
 B.al a (B.pv (V.zg 4 a) fun b =>
  B.newO h (zcr [(0, none, b)] (repL 1 [.int .u8 0])) fun c h =>
  B.appW h 1 1 e (.sl c 0 0 1 1 1) fun d h =>
  zcb.k6 C N Q d a h)
@[simp] def zcb.k8 (C : CSem) (N : zN) (Q : zQ) (i a : AVal) (h : za) : Prop :=
 B.al a (B.pv (V.zg 2 a) fun b =>
  B.pv (V.bin .add b (.int .i64 1)) fun c =>
  B.call C (N 50) [i, c, (.int .i64 2)] h fun d h =>
  B.al a (B.pv (V.zg 3 a) fun e =>
  B.call C (N 51) [e] h fun f h =>
  B.appW h 1 1 d f fun g h =>
  zcb.k7 C N Q g a h))
@[simp] def zcb.k9 (C : CSem) (N : zN) (Q : zQ) (b a : AVal) (h : za) : Prop :=
 B.al a (B.pv (V.zg 0 a) fun c =>
  B.pv (V.bin .gtr c (.int .i64 0)) fun d =>
  B.cond d
  (Q (.tup [b, (.int .i64 0)]) h)
  (B.al a (B.pv (V.zg 1 a) fun e =>
  B.call C (N 50) [b, e, (.int .i64 8)] h fun f h =>
  zcb.k8 C N Q f a h)))
@[simp] def zcb.k10 (C : CSem) (N : zN) (Q : zQ) (a : AVal) (h : za) : Prop :=
 B.pv (V.zcd 0 7 a) fun b =>
  B.call C (N 29) [b] h fun c h =>
  B.pv (V.un .not c) fun d =>
  B.cond d
  (Q (.tup [.nils, (.int .i64 2)]) h)
  (B.al a (B.pv (V.zg 0 a) fun e =>
  B.call C (N 50) [.nils, e, (.int .i64 2)] h fun f h =>
  zcb.k9 C N Q f a h))
@[simp] def zcb.cps (C : CSem) (N : zN) (a : AVal) (h : za) (Q : zQ) : Prop :=
 B.pv (A.boxN 7 a) fun b =>
  zcb.k10 C N Q b h
def zcb.Imp (C : CSem) (N : zN) : Prop := im1 C (N 28) (zcb.cps C N)
@[simp] def zb3.k1 (C : CSem) (N : zN) (Q : zQ) (Y1 : zL) (e f c : AVal) (h : za) : Prop :=
 B.pv (V.bin .lss c f) fun g =>
  B.cond g
  (B.pv (V.idxS 3 e c) fun i =>
  B.ldn h i 3 fun j =>
  B.pv (V.setN 0 3 j (.agg [.int .i64 0, .int .i64 0, .int .i64 0])) fun d =>
  B.al d (B.pv (V.zg 0 d) fun k =>
  B.pv (V.bin .lss k (.int .i64 0)) fun a =>
  B.al d (B.gd h a false (fun K => K .undef h) fun _ h =>
  B.gd h a false (fun K => B.pv (V.zg 1 d) fun v => K v h) fun l h =>
  B.gd h a false (fun K => B.pv (V.bin .lss l (.int .i64 1)) fun v => K v h) fun m h =>
  B.pick a (.bool true) m fun b =>
  B.al d (B.gd h b false (fun K => K .undef h) fun _ h =>
  B.gd h b false (fun K => B.pv (V.zg 2 d) fun v => K v h) fun n h =>
  B.gd h b false (fun K => B.pv (V.bin .lss n (.int .i64 1)) fun v => K v h) fun o h =>
  B.pick b (.bool true) o fun p =>
  B.cond p
  (Q (.bool false) h)
  (B.pv (V.bin .add c (.int .i64 1)) fun q =>
  Y1 [q] h)))))
  (Q (.bool true) h)
@[simp] def zb3.l2 (C : CSem) (N : zN) (Q : zQ) (a b : AVal) : zG
 | [c], h, Y1 => zb3.k1 C N Q Y1 a b c h
 | _, _, _ => False
@[simp] def zb3.k3 (C : CSem) (N : zN) (Q : zQ) (Y2 : zL) (g i a j : AVal) (h : za) : Prop :=
 B.pv (V.bin .lss a i) fun k =>
  B.cond k
  (B.pv (V.idxS 6 g a) fun l =>
  B.ldn h l 6 fun m =>
  B.pv (V.setN 0 6 m (.agg [.int .i64 0, .str [], .int .i64 0, .int .i64 0, .int .i64 0, .bool false])) fun o =>
  B.pv (V.zcd 0 6 o) fun n =>
  B.call C (N 52) [n] h fun c h =>
  B.pv (V.un .not c) fun d =>
  B.cond d
  (Q (.bool false) h)
  (B.pv (V.bin .add a (.int .i64 1)) fun e =>
  Y2 [e] h))
  (B.al j (B.pv (V.zg 6 j) fun b =>
  B.pv (V.zj b) fun f =>
  ze (zb3.l2 C N Q b f) [(.int .i64 0)] h))
@[simp] def zb3.l4 (C : CSem) (N : zN) (Q : zQ) (a b d : AVal) : zG
 | [c], h, Y2 => zb3.k3 C N Q Y2 a b c d h
 | _, _, _ => False
@[simp] def zb3.k5 (C : CSem) (N : zN) (Q : zQ) (v3 a : AVal) (h : za) : Prop :=
 B.al a (B.pv (V.zg 0 a) fun l =>
  B.pv (V.bin .lss l (.int .i64 0)) fun f =>
  B.al a (B.gd h f false (fun K => K .undef h) fun _ h =>
  B.gd h f false (fun K => B.pv (V.zg 0 a) fun v => K v h) fun m h =>
  B.gd h f false (fun K => B.pv (V.bin .gtr m (.int .i64 999)) fun v => K v h) fun n h =>
  B.pick f (.bool true) n fun o =>
  B.cond o
  (Q (.bool false) h)
  (B.al a (B.pv (V.zg 0 a) fun p =>
  B.pv (V.bin .gtr p (.int .i64 0)) fun q =>
  B.cond q
  (Q v3 h)
  (B.al a (B.pv (V.zg 1 a) fun r =>
  B.pv (V.bin .lss r (.int .i64 0)) fun g =>
  B.al a (B.gd h g false (fun K => K .undef h) fun _ h =>
  B.gd h g false (fun K => B.pv (V.zg 2 a) fun v => K v h) fun s h =>
  B.gd h g false (fun K => B.pv (V.bin .lss s (.int .i64 (-1))) fun v => K v h) fun t h =>
  B.pick g (.bool true) t fun i =>
  B.al a (B.gd h i false (fun K => K .undef h) fun _ h =>
  B.gd h i false (fun K => B.pv (V.zg 2 a) fun v => K v h) fun u h =>
  B.gd h i false (fun K => B.pv (V.bin .gtr u (.int .i64 4000)) fun v => K v h) fun w h =>
  B.pick i (.bool true) w fun b =>
  B.al a (B.gd h b false (fun K => K .undef h) fun _ h =>
  B.gd h b false (fun K => B.pv (V.zg 3 a) fun v => K v h) fun x h =>
  B.gd h b false (fun K => B.pv (V.bin .neq x (.str [])) fun v => K v h) fun y h =>
  B.gd h b false (fun K => K y h) fun c h =>
  B.al a (B.gd h c true (fun K => K .undef h) fun _ h =>
  B.gd h c true (fun K => B.pv (V.zg 3 a) fun v => K v h) fun z h =>
  B.gd h c true (fun K => B.call C (N 53) [z] h K) fun aa h =>
  B.gd h c true (fun K => B.pv (V.un .not aa) fun v => K v h) fun ab h =>
  B.gd h b false (fun K => B.pick c ab (.bool false) fun v => K v h) fun ac h =>
  B.pick b (.bool true) ac fun j =>
  B.al a (B.gd h j false (fun K => K .undef h) fun _ h =>
  B.gd h j false (fun K => B.pv (V.zg 4 a) fun v => K v h) fun ad h =>
  B.gd h j false (fun K => B.pv (V.bin .gtr ad (.int .u8 3)) fun v => K v h) fun ae h =>
  B.pick j (.bool true) ae fun d =>
  B.al a (B.gd h d false (fun K => K .undef h) fun _ h =>
  B.gd h d false (fun K => B.pv (V.zg 5 a) fun v => K v h) fun af h =>
  B.gd h d false (fun K => B.pv (V.zj af) fun v => K v h) fun ag h =>
  B.gd h d false (fun K => B.pv (V.bin .gtr ag (.int .i64 300)) fun v => K v h) fun ah h =>
  B.pick d (.bool true) ah fun e =>
  B.al a (B.gd h e false (fun K => K .undef h) fun _ h =>
  B.gd h e false (fun K => B.pv (V.zg 6 a) fun v => K v h) fun ai h =>
  B.gd h e false (fun K => B.pv (V.zj ai) fun v => K v h) fun aj h =>
  B.gd h e false (fun K => B.pv (V.bin .gtr aj (.int .i64 2000)) fun v => K v h) fun ak h =>
  B.pick e (.bool true) ak fun am =>
  B.cond am
  (Q (.bool false) h)
  (B.al a (B.pv (V.zg 5 a) fun k =>
  B.pv (V.zj k) fun an =>
  ze (zb3.l4 C N Q k an a) [(.int .i64 0)] h)))))))))))))))
@[simp] def zb3.k6 (C : CSem) (N : zN) (Q : zQ) (b : AVal) (h : za) : Prop :=
 B.al b (B.pv (V.zg 1 b) fun t =>
  B.pv (V.bin .eql t (.int .i64 0)) fun c =>
  B.al b (B.gd h c true (fun K => K .undef h) fun _ h =>
  B.gd h c true (fun K => B.pv (V.zg 2 b) fun v => K v h) fun f h =>
  B.gd h c true (fun K => B.pv (V.bin .eql f (.int .i64 0)) fun v => K v h) fun g h =>
  B.pick c g (.bool false) fun d =>
  B.al b (B.gd h d true (fun K => K .undef h) fun _ h =>
  B.gd h d true (fun K => B.pv (V.zg 3 b) fun v => K v h) fun i h =>
  B.gd h d true (fun K => B.pv (V.bin .eql i (.str [])) fun v => K v h) fun j h =>
  B.pick d j (.bool false) fun e =>
  B.al b (B.gd h e true (fun K => K .undef h) fun _ h =>
  B.gd h e true (fun K => B.pv (V.zg 4 b) fun v => K v h) fun k h =>
  B.gd h e true (fun K => B.pv (V.bin .eql k (.int .u8 0)) fun v => K v h) fun l h =>
  B.pick e l (.bool false) fun a =>
  B.al b (B.gd h a true (fun K => K .undef h) fun _ h =>
  B.gd h a true (fun K => B.pv (V.zg 5 b) fun v => K v h) fun m h =>
  B.gd h a true (fun K => B.pv (V.zj m) fun v => K v h) fun n h =>
  B.al b (B.gd h a true (fun K => K .undef h) fun _ h =>
  B.gd h a true (fun K => B.pv (V.zg 6 b) fun v => K v h) fun o h =>
  B.gd h a true (fun K => B.pv (V.zj o) fun v => K v h) fun p h =>
  B.gd h a true (fun K => B.pv (V.bin .add n p) fun v => K v h) fun q h =>
  B.gd h a true (fun K => B.pv (V.bin .eql q (.int .i64 0)) fun v => K v h) fun r h =>
  B.pick a r (.bool false) fun s =>
  zb3.k5 C N Q s b h))))))
@[simp] def zb3.cps (C : CSem) (N : zN) (a : AVal) (h : za) (Q : zQ) : Prop :=
 B.pv (A.boxN 7 a) fun b =>
  zb3.k6 C N Q b h
def zb3.Imp (C : CSem) (N : zN) : Prop := im1 C (N 29) (zb3.cps C N)
@[simp] def zds.k1 (C : CSem) (N : zN) (Q : zQ) (b d e : AVal) (h : za) : Prop :=
 B.nilCheck d fun f =>
  B.pv (V.fieldAddr 2 f) fun g =>
  B.ld h g fun a =>
  B.gd h a false (fun K => B.pv (V.zcd 0 7 e) fun v => K v h) fun i h =>
  B.gd h a false (fun K => B.call C (N 29) [i] h K) fun j h =>
  B.gd h a false (fun K => B.pv (V.un .not j) fun v => K v h) fun k h =>
  B.pick a (.bool true) k fun l =>
  B.cond l
  (B.pv (A.bld [] [.int .i64 0, .int .i64 0, .int .i64 0, .str [], .int .u8 0, .nils, .nils]) fun m =>
  B.stn h b 7 m fun h =>
  B.pv (oneOf (ze9 (A.ldnv h b 7) (ze9 (some (.int .i64 0)) (ze9 (some (.int .i64 4)) (some []))))) fun v => Q v h)
  (B.pv (V.zcd 0 7 e) fun n =>
  B.nilCheck d fun o =>
  B.pv (V.fieldAddr 1 o) fun c =>
  B.ld h c fun p =>
  (fun K => B.stn h b 7 n fun h => K .undef h) (B.zk5 h [(c, none)] (fun _ h => B.pv (oneOf (ze9 (A.ldnv h b 7) (ze9 (some p) (ze9 (some (.int .i64 0)) (some []))))) fun v => Q v h)))
@[simp] def zds.k2 (C : CSem) (N : zN) (Q : zQ) (c b a : AVal) (h : za) : Prop :=
 B.al a (B.pv (V.zg 0 a) fun d =>
  B.pv (V.bin .eql d (.int .i64 0)) fun e =>
  B.cond e
  (B.call C (N 65) [b, (.int .i64 8)] h fun f h =>
  B.al a (B.pv (V.setF 1 f a) fun a =>
  B.call C (N 65) [b, (.int .i64 2)] h fun g h =>
  B.pv (V.bin .sub g (.int .i64 1)) fun i =>
  B.al a (B.pv (V.setF 2 i a) fun a =>
  B.call C (N 66) [b] h fun j h =>
  B.al a (B.pv (V.setF 3 j a) fun a =>
  B.call C (N 65) [b, (.int .i64 1)] h fun k h =>
  B.pv (V.toInt .u8 k) fun l =>
  B.al a (B.pv (V.setF 4 l a) fun a =>
  B.call C (N 68) [b, (.fn (N 67) [b] [])] h fun m h =>
  B.al a (B.pv (V.setF 5 m a) fun a =>
  B.call C (N 70) [b, (.fn (N 69) [b] [])] h fun n h =>
  B.al a (B.pv (V.setF 6 n a) fun a =>
  zds.k1 C N Q c b a h)))))))
  (zds.k1 C N Q c b a h))
@[simp] def zds.k3 (C : CSem) (N : zN) (Q : zQ) (d a : AVal) (h : za) : Prop :=
 B.call C (N 65) [a, (.int .i64 2)] h fun b h =>
  B.pv (A.bld [(0, none, b)] [.int .i64 0, .int .i64 0, .int .i64 0, .str [], .int .u8 0, .nils, .nils]) fun c =>
  B.pv (V.setN 0 7 c (.agg [.int .i64 0, .int .i64 0, .int .i64 0, .str [], .int .u8 0, .nils, .nils])) fun e =>
  zds.k2 C N Q d a e h
@[simp] def zds.k4 (C : CSem) (N : zN) (Q : zQ) (a : AVal) (h : za) : Prop :=
 B.newO h (some [.int .i64 0, .int .i64 0, .int .i64 0, .str [], .int .u8 0, .nils, .nils]) fun b h =>
  B.pv (A.bld [(0, none, a)] [.nils, .int .i64 0, .bool false]) fun c =>
  B.newO h (A.zjp 3 c) fun d h =>
  zds.k3 C N Q (.ptr b 0 0) (.ptr d 0 0) h
@[simp] def zds.cps (C : CSem) (N : zN) (a : AVal) (h : za) (Q : zQ) : Prop :=
 zds.k4 C N Q a h
def zds.Imp (C : CSem) (N : zN) : Prop := im1 C (N 38) (zds.cps C N)
@[simp] def ze7.k1 (C : CSem) (N : zN) (Q : zQ) (Y1 : zL) (b k a : AVal) (h : za) : Prop :=
 B.pv (V.bin .geq a (.int .i64 0)) fun c =>
  B.cond c
  (B.pv (V.bin .mul (.int .i64 8) a) fun d =>
  B.pv (V.bin .shr k d) fun e =>
  B.pv (V.toInt .u8 e) fun f =>
  B.newO h (zcr [(0, none, f)] (repL 1 [.int .u8 0])) fun g h =>
  B.appW h 1 1 b (.sl g 0 0 1 1 1) fun i h =>
  B.pv (V.bin .sub a (.int .i64 1)) fun j =>
  Y1 [i, j] h)
  (Q b h)
@[simp] def ze7.l2 (C : CSem) (N : zN) (Q : zQ) (a : AVal) : zG
 | [b, c], h, Y1 => ze7.k1 C N Q Y1 b a c h
 | _, _, _ => False
@[simp] def ze7.cps (C : CSem) (N : zN) (a b c : AVal) (h : za) (Q : zQ) : Prop :=
 B.pv (V.bin .sub c (.int .i64 1)) fun d =>
  ze (ze7.l2 C N Q b) [a, d] h
def ze7.Imp (C : CSem) (N : zN) : Prop := im3 C (N 50) (ze7.cps C N)
@[simp] def zm.k1 (C : CSem) (N : zN) (Q : zQ) (a i j : AVal) (h : za) : Prop :=
 B.nilCheck a fun b =>
  B.pv (V.fieldAddr 1 b) fun c =>
  B.ld h c fun d =>
  B.pv (V.bin .add d i) fun e =>
  B.nilCheck a fun f =>
  B.pv (V.fieldAddr 1 f) fun g =>
  B.st h g e fun h =>
  Q j h
@[simp] def zm.k2 (C : CSem) (N : zN) (Q : zQ) (Y1 : zL) (m n b c d a : AVal) (h : za) : Prop :=
 B.pv (V.bin .lss a d) fun e =>
  B.cond e
  (B.pv (V.idxS 1 c a) fun f =>
  B.ld h f fun g =>
  B.pv (V.bin .shl b (.int .u64 8)) fun i =>
  B.pv (V.toInt .i64 g) fun j =>
  B.pv (V.bin .or i j) fun k =>
  B.pv (V.bin .add a (.int .i64 1)) fun l =>
  Y1 [k, l] h)
  (zm.k1 C N Q m n b h)
@[simp] def zm.l3 (C : CSem) (N : zN) (Q : zQ) (d e a b : AVal) : zG
 | [f, c], h, Y1 => zm.k2 C N Q Y1 d e f a b c h
 | _, _, _ => False
@[simp] def zm.k4 (C : CSem) (N : zN) (Q : zQ) (a c p : AVal) (h : za) : Prop :=
 B.nilCheck a fun d =>
  B.pv (V.fieldAddr 0 d) fun e =>
  B.ld h e fun f =>
  B.nilCheck a fun g =>
  B.pv (V.fieldAddr 1 g) fun i =>
  B.ld h i fun j =>
  B.nilCheck a fun k =>
  B.pv (V.fieldAddr 1 k) fun l =>
  B.ld h l fun m =>
  B.pv (V.bin .add m c) fun n =>
  B.pv (V.zgo 1 f (some j) (some n)) fun b =>
  B.pv (V.zj b) fun o =>
  ze (zm.l3 C N Q a c b o) [p, (.int .i64 0)] h
@[simp] def zm.k5 (C : CSem) (N : zN) (Q : zQ) (b c : AVal) (h : za) : Prop :=
 B.nilCheck b fun d =>
  B.pv (V.fieldAddr 2 d) fun e =>
  B.ld h e fun a =>
  B.gd h a false (fun K => K c h) fun f h =>
  B.gd h a false (fun K => K b h) fun g h =>
  B.gd h a false (fun K => B.nilCheck g fun v => K v h) fun i h =>
  B.gd h a false (fun K => B.pv (V.fieldAddr 0 i) fun v => K v h) fun j h =>
  B.gd h a false (fun K => B.ld h j fun v => K v h) fun k h =>
  B.gd h a false (fun K => B.pv (V.zj k) fun v => K v h) fun l h =>
  B.gd h a false (fun K => K b h) fun m h =>
  B.gd h a false (fun K => B.nilCheck m fun v => K v h) fun n h =>
  B.gd h a false (fun K => B.pv (V.fieldAddr 1 n) fun v => K v h) fun o h =>
  B.gd h a false (fun K => B.ld h o fun v => K v h) fun p h =>
  B.gd h a false (fun K => B.pv (V.bin .sub l p) fun v => K v h) fun q h =>
  B.gd h a false (fun K => B.pv (V.bin .gtr f q) fun v => K v h) fun r h =>
  B.pick a (.bool true) r fun s =>
  B.nilCheck b fun t =>
  B.pv (V.fieldAddr 2 t) fun u =>
  B.st h u s fun h =>
  B.nilCheck b fun w =>
  B.pv (V.fieldAddr 2 w) fun x =>
  B.ld h x fun y =>
  B.cond y
  (Q (.int .i64 0) h)
  (zm.k4 C N Q b c (.int .i64 0) h)
@[simp] def zm.cps (C : CSem) (N : zN) (a b : AVal) (h : za) (Q : zQ) : Prop :=
 zm.k5 C N Q a b h
def zm.Imp (C : CSem) (N : zN) : Prop := im2 C (N 65) (zm.cps C N)
@[simp] def zb8.k1 (C : CSem) (N : zN) (Q : zQ) (a : AVal) (h : za) : Prop :=
 B.nilCheck a fun w =>
  B.pv (V.fieldAddr 2 w) fun x =>
  B.ld h x fun y =>
  B.cond y
  (Q (.str []) h)
  (B.nilCheck a fun c =>
  B.pv (V.fieldAddr 0 c) fun d =>
  B.ld h d fun e =>
  B.nilCheck a fun f =>
  B.pv (V.fieldAddr 1 f) fun g =>
  B.ld h g fun i =>
  B.pv (V.zgo 1 e (some i) none) fun j =>
  B.call C (N 103) [j] h fun b h =>
  B.pv (V.ext 0 b) fun k =>
  B.pv (V.ext 1 b) fun l =>
  B.pv (V.ext 2 b) fun m =>
  B.pv (V.un .not m) fun n =>
  B.nilCheck a fun o =>
  B.pv (V.fieldAddr 2 o) fun p =>
  B.st h p n fun h =>
  B.nilCheck a fun q =>
  B.pv (V.fieldAddr 1 q) fun r =>
  B.ld h r fun s =>
  B.pv (V.bin .add s l) fun t =>
  B.nilCheck a fun u =>
  B.pv (V.fieldAddr 1 u) fun v =>
  B.st h v t fun h =>
  Q k h)
@[simp] def zb8.cps (C : CSem) (N : zN) (a : AVal) (h : za) (Q : zQ) : Prop :=
 zb8.k1 C N Q a h
def zb8.Imp (C : CSem) (N : zN) : Prop := im1 C (N 66) (zb8.cps C N)
@[simp] def zci.k1 (C : CSem) (N : zN) (Q : zQ) (b : AVal) (h : za) : Prop :=
 B.call C (N 65) [b, (.int .i64 8)] h fun r h =>
  B.call C (N 66) [b] h fun s h =>
  B.pv (A.bld [(0, none, r), (1, none, s)] [.int .i64 0, .str [], .int .i64 0, .int .i64 0, .int .i64 0, .bool false]) fun t =>
  B.pv (V.setN 0 6 t (.agg [.int .i64 0, .str [], .int .i64 0, .int .i64 0, .int .i64 0, .bool false])) fun a =>
  B.call C (N 65) [b, (.int .i64 2)] h fun e h =>
  B.call C (N 65) [b, (.int .i64 2)] h fun f h =>
  B.al a (B.al a (B.pv (V.setF 2 e a) fun a =>
  B.al a (B.al a (B.pv (V.setF 3 f a) fun a =>
  B.call C (N 65) [b, (.int .i64 8)] h fun g h =>
  B.al a (B.pv (V.setF 4 g a) fun a =>
  B.call C (N 65) [b, (.int .i64 1)] h fun d h =>
  B.pv (V.bin .eql d (.int .i64 1)) fun i =>
  B.al a (B.pv (V.setF 5 i a) fun a =>
  B.nilCheck b fun j =>
  B.pv (V.fieldAddr 2 j) fun k =>
  B.ld h k fun c =>
  B.gd h c false (fun K => K d h) fun l h =>
  B.gd h c false (fun K => B.pv (V.bin .gtr l (.int .i64 1)) fun v => K v h) fun m h =>
  B.pick c (.bool true) m fun n =>
  B.nilCheck b fun o =>
  B.pv (V.fieldAddr 2 o) fun p =>
  B.st h p n fun h =>
  B.pv (V.zcd 0 6 a) fun q =>
  B.pv (V.setN 0 6 q (.agg [.int .i64 0, .str [], .int .i64 0, .int .i64 0, .int .i64 0, .bool false])) fun u =>
  B.pv (oneOf (ze9 (V.zcd 0 6 u) (some []))) fun v => Q v h))))))
@[simp] def zci.cps (C : CSem) (N : zN) (a : AVal) (h : za) (Q : zQ) : Prop :=
 zci.k1 C N Q a h
def zci.Imp (C : CSem) (N : zN) : Prop := im1 C (N 67) (zci.cps C N)
@[simp] def zbo.k1 (C : CSem) (N : zN) (Q : zQ) (Y1 : zL) (o p b c : AVal) (h : za) : Prop :=
 B.pv (V.bin .gtr c (.int .i64 0)) fun a =>
  B.gd h a true (fun K => K o h) fun d h =>
  B.gd h a true (fun K => B.nilCheck d fun v => K v h) fun e h =>
  B.gd h a true (fun K => B.pv (V.fieldAddr 2 e) fun v => K v h) fun f h =>
  B.gd h a true (fun K => B.ld h f fun v => K v h) fun g h =>
  B.gd h a true (fun K => B.pv (V.un .not g) fun v => K v h) fun i h =>
  B.pick a i (.bool false) fun j =>
  B.cond j
  (B.zki h C p [] fun k h =>
  B.newO h (zcr [(0, some 6, k)] (repL 1 [.int .i64 0, .str [], .int .i64 0, .int .i64 0, .int .i64 0, .bool false])) fun l h =>
  B.appW h 6 56 b (.sl l 0 0 1 6 1) fun m h =>
  B.pv (V.bin .sub c (.int .i64 1)) fun n =>
  Y1 [m, n] h)
  (Q b h)
@[simp] def zbo.l2 (C : CSem) (N : zN) (Q : zQ) (a b : AVal) : zG
 | [c, d], h, Y1 => zbo.k1 C N Q Y1 a b c d h
 | _, _, _ => False
@[simp] def zbo.cps (C : CSem) (N : zN) (a b : AVal) (h : za) (Q : zQ) : Prop :=
 B.call C (N 65) [a, (.int .i64 2)] h fun c h =>
  ze (zbo.l2 C N Q a b) [.nils, c] h
def zbo.Imp (C : CSem) (N : zN) : Prop := im2 C (N 68) (zbo.cps C N)
@[simp] def zch.k1 (C : CSem) (N : zN) (Q : zQ) (a : AVal) (h : za) : Prop :=
 B.call C (N 65) [a, (.int .i64 8)] h fun b h =>
  B.call C (N 65) [a, (.int .i64 8)] h fun c h =>
  B.call C (N 65) [a, (.int .i64 8)] h fun d h =>
  B.pv (A.bld [(0, none, b), (1, none, c), (2, none, d)] [.int .i64 0, .int .i64 0, .int .i64 0]) fun e =>
  B.pv (V.setN 0 3 e (.agg [.int .i64 0, .int .i64 0, .int .i64 0])) fun f =>
  B.pv (oneOf (ze9 (V.zcd 0 3 f) (some []))) fun v => Q v h
@[simp] def zch.cps (C : CSem) (N : zN) (a : AVal) (h : za) (Q : zQ) : Prop :=
 zch.k1 C N Q a h
def zch.Imp (C : CSem) (N : zN) : Prop := im1 C (N 69) (zch.cps C N)
@[simp] def zbn.k1 (C : CSem) (N : zN) (Q : zQ) (Y1 : zL) (o p b c : AVal) (h : za) : Prop :=
 B.pv (V.bin .gtr c (.int .i64 0)) fun a =>
  B.gd h a true (fun K => K o h) fun d h =>
  B.gd h a true (fun K => B.nilCheck d fun v => K v h) fun e h =>
  B.gd h a true (fun K => B.pv (V.fieldAddr 2 e) fun v => K v h) fun f h =>
  B.gd h a true (fun K => B.ld h f fun v => K v h) fun g h =>
  B.gd h a true (fun K => B.pv (V.un .not g) fun v => K v h) fun i h =>
  B.pick a i (.bool false) fun j =>
  B.cond j
  (B.zki h C p [] fun k h =>
  B.newO h (zcr [(0, some 3, k)] (repL 1 [.int .i64 0, .int .i64 0, .int .i64 0])) fun l h =>
  B.appW h 3 24 b (.sl l 0 0 1 3 1) fun m h =>
  B.pv (V.bin .sub c (.int .i64 1)) fun n =>
  Y1 [m, n] h)
  (Q b h)
@[simp] def zbn.l2 (C : CSem) (N : zN) (Q : zQ) (a b : AVal) : zG
 | [c, d], h, Y1 => zbn.k1 C N Q Y1 a b c d h
 | _, _, _ => False
@[simp] def zbn.cps (C : CSem) (N : zN) (a b : AVal) (h : za) (Q : zQ) : Prop :=
 B.call C (N 65) [a, (.int .i64 2)] h fun c h =>
  ze (zbn.l2 C N Q a b) [.nils, c] h
def zbn.Imp (C : CSem) (N : zN) : Prop := im2 C (N 70) (zbn.cps C N)
@[simp] def zdg.k1 (C : CSem) (N : zN) (Q : zQ) (j : AVal) (h : za) : Prop :=
 B.pv (A.boxN 2 j) fun a =>
  B.al a (B.pv (V.zg 0 a) fun k =>
  B.pv (V.bin .leq (.int .i64 0) k) fun c =>
  B.al a (B.gd h c true (fun K => K .undef h) fun _ h =>
  B.gd h c true (fun K => B.pv (V.zg 0 a) fun v => K v h) fun l h =>
  B.al a (B.gd h c true (fun K => K .undef h) fun _ h =>
  B.gd h c true (fun K => B.pv (V.zg 1 a) fun v => K v h) fun d h =>
  B.gd h c true (fun K => B.pv (V.bin .leq l d) fun v => K v h) fun e h =>
  B.pick c e (.bool false) fun b =>
  B.al a (B.gd h b true (fun K => K .undef h) fun _ h =>
  B.gd h b true (fun K => B.pv (V.zg 1 a) fun v => K v h) fun f h =>
  B.gd h b true (fun K => B.pv (V.bin .leq f (.int .i64 4001)) fun v => K v h) fun g h =>
  B.pick b g (.bool false) fun i =>
  Q i h))))
@[simp] def zdg.cps (C : CSem) (N : zN) (a : AVal) (h : za) (Q : zQ) : Prop :=
 zdg.k1 C N Q a h
def zdg.Imp (C : CSem) (N : zN) : Prop := im1 C (N 5) (zdg.cps C N)
end Go.Ab
set_option maxRecDepth 100000
namespace Go.Ab.S16z
open Go.Ab Go.Proofs
noncomputable abbrev P : Program := Tryz.prog
def lkz : List (Nat × List Nat) -> Nat -> List Nat
 | [], _ => []
 | (a, b) :: r, k => bif Nat.beq a k then b else lkz r k
def pz (e : List (Nat × List Nat)) : Nat -> List (Nat × List Nat)
 | 0 => []
 | n + 1 => pz e n ++ [(n, lkz e n)]
@[reducible] def LkT (P : Program) (I : Bx) (f : Func) (F : CSem -> (zQ) -> zbg -> za -> Prop) : Prop := ∀ {C : CSem} (hC : zjd C) (Q : zQ) (s : zbg) (h : za), F C Q s h -> bwp P C I (f.body.getD .skip) (retB P I f.results.toList Q) s h
theorem eT {P : Program} {C : CSem} {I : Bx} (hC : zjd C) {c : Code} {Q : Ex -> zbg -> za -> Prop} {s : zbg} {h : za} (X : zbg -> za -> Prop) {p : Prop} (hR : p) (hb : ∀ s h, X s h -> bwp P C I (cB c) Q s h) (e : bwp P C I (cA c) (Ex.then X Q) s h = p := by kernel_rfl) (hk : isS c = true := by kernel_rfl) : bwp P C I c Q s h := eS hC X (e1 hR e) hb hk
@[reducible] def on1 (F : AVal -> zG) : List AVal -> zG
 | [a], u, v, w => F a u v w
 | _, _, _, _ => False
@[reducible] def on2 (F : AVal -> AVal -> zG) : List AVal -> zG
 | [a, b], u, v, w => F a b u v w
 | _, _, _, _ => False
@[reducible] def on3 (F : AVal -> AVal -> AVal -> zG) : List AVal -> zG
 | [a, b, c], u, v, w => F a b c u v w
 | _, _, _, _ => False
@[reducible] def on4 (F : AVal -> AVal -> AVal -> AVal -> zG) : List AVal -> zG
 | [a, b, c, d], u, v, w => F a b c d u v w
 | _, _, _, _ => False
@[reducible] def on5 (F : AVal -> AVal -> AVal -> AVal -> AVal -> zG) : List AVal -> zG
 | [a, b, c, d, e], u, v, w => F a b c d e u v w
 | _, _, _, _ => False
@[reducible] def on6 (F : AVal -> AVal -> AVal -> AVal -> AVal -> AVal -> zG) : List AVal -> zG
 | [a, b, c, d, e, f], u, v, w => F a b c d e f u v w
 | _, _, _, _ => False
@[reducible] def on9 (F : AVal -> AVal -> AVal -> AVal -> AVal -> AVal -> AVal -> AVal -> AVal -> zG) : List AVal -> zG
 | [a, b, c, d, e, f, g, i, j], u, v, w => F a b c d e f g i j u v w
 | _, _, _, _ => False
def N (k : Nat) : Nat := [0, 0, 0, 0, 0, 169, 0, 0, 0, 0, 0, 0, 0, 0, 0, 0, 0, 0, 180, 0, 167, 0, 0, 0, 0, 0, 0, 24, 83, 149, 28, 29, 90, 158, 33, 36, 0, 139, 87, 143, 144, 91, 32, 35, 0, 41, 0, 0, 44, 82, 150, 50, 103, 106, 52, 88, 55, 89, 159, 114, 112, 177, 64, 95, 140, 152, 153, 155, 154, 157, 156, 145, 160, 146, 79, 92, 94, 100, 148, 107, 116, 117, 118, 119, 120, 121, 122, 123, 124, 125, 126, 127, 128, 129, 130, 131, 132, 133, 134, 135, 136, 137, 138, 198, 199, 161, 179, 181, 182, 99, 109, 101, 183, 184, 185, 186, 22, 66, 62, 187, 188, 189, 190, 191, 192, 193, 194, 195, 196, 197, 201, 203, 173, 174, 78, 80, 210, 211, 212, 0, 0, 0, 0, 0, 0, 0, 0, 0, 0, 0, 0, 0, 0, 0, 0, 0, 0, 0, 0, 0, 0, 0, 0, 0, 0, 0, 0, 0, 0, 0, 0, 0, 0, 0, 0, 0, 0, 0, 0, 104, 113, 0, 0, 0, 0, 0, 45, 0, 0, 53, 56, 0, 0, 0, 0, 0, 0, 0, 0, 0, 0, 0, 0, 0, 0, 0, 0, 202, 0, 0, 0, 0, 0, 0, 0, 0, 0, 0, 0, 0, 0, 0, 0, 0, 0, 0, 0, 0, 0, 163, 0, 0, 0, 0, 0, 0, 0, 0, 0, 0, 0, 0, 0, 0, 0, 0, 0, 0, 0, 0, 0, 0, 0, 0, 17, 0, 0, 0, 19, 0, 0, 0, 0, 14, 0, 0, 0, 0, 0, 0, 0, 65, 0, 73, 67, 0, 0, 0, 0, 0, 75, 0, 0, 0, 0, 0, 0, 0, 0, 0, 0, 0, 0, 0, 0, 0, 0, 0, 0, 0, 0, 0, 0, 141, 0, 0, 40, 15, 0, 0, 0, 97, 63, 0, 0, 115, 0, 0, 0, 165, 0, 0, 0, 0, 171, 0, 0, 0, 0, 0, 0, 0, 0, 0, 0, 0, 0, 0, 0, 0, 0, 0, 0, 0, 0, 0, 0, 0, 0, 0, 0, 0, 0, 0, 162, 0, 0, 0, 0, 0, 0, 204, 0, 0, 0, 0, 0, 0, 214, 215, 0, 0, 0, 0, 0, 0, 0, 0, 0, 0, 0, 0, 0, 0, 0, 0, 0, 0, 0, 0, 0, 43, 51, 54, 0, 0, 0, 0, 0, 98, 108, 110, 0, 0, 0, 218, 166, 172, 175, 176, 0, 0, 10, 18, 26, 25, 7, 16, 8, 0, 96, 0, 39, 49, 48, 47, 46, 27, 85, 84, 72, 74, 68, 69, 70, 71, 86, 164, 102, 105, 142, 168, 205, 151, 170, 216, 9, 11, 12, 13, 3, 20, 21, 23, 4, 30, 31, 34, 5, 42, 38, 37, 6, 61, 60, 59, 58, 57, 76, 77, 81, 93, 111, 147, 178, 200, 206, 207, 208, 209, 213, 217].getD k 0
theorem mixed : P.follows .mixedOrders = true := by kernel_rfl
def zcn.I : Bx := ⟨[4, 6, 8], [], 60, []⟩
theorem zcn.L : LkT P zcn.I Tryz.f4 fun C Q s h => zcn.cps C N (s 0) h Q := fun {C} hC Q s h hR => e1 hR
theorem zcn.imp : zcn.Imp (AC P) N := fun a h Q hR => eF mixed (fn := Tryz.f4) (fun hC => zcn.L hC (dn Q) (zbf [a]) h hR)
def zdo.I : Bx := ⟨[2, 6], [80], 90, [(7, pz [(28, [27])] 63)]⟩
theorem zdo.L : LkT P zdo.I Tryz.f8 fun C Q s h => zdo.cps C N h Q := fun {C} hC Q s h hR => e1 hR
theorem zdo.imp : zdo.Imp (AC P) N := fun h Q hR => eF mixed (fn := Tryz.f8) (fun hC => zdo.L hC (dn Q) (zbf []) h hR)
def z9.I : Bx := ⟨[1, 6, 9, 13, 16], [24, 32, 40, 45, 52, 55, 61, 69, 72, 79, 86, 100, 107, 115, 122, 127, 130, 131, 134, 135, 138, 145, 155, 160, 163, 166, 169, 172, 175, 179], 186, [(11, [(0, []), (1, []), (3, []), (4, []), (5, []), (6, []), (2, [4]), (7, []), (8, []), (9, [])]), (15, [(0, []), (1, []), (2, []), (4, []), (5, []), (3, [5]), (6, []), (7, []), (8, []), (9, [])]), (31, [(0, []), (3, []), (4, []), (8, []), (9, []), (11, []), (12, []), (13, []), (15, []), (16, []), (17, []), (19, []), (20, []), (22, []), (5, [9, 13, 17, 20]), (1, []), (2, []), (6, []), (7, [9, 13, 17, 20]), (10, [13, 17, 20]), (14, [17, 20]), (18, [20]), (21, []), (23, []), (24, [])]), (36, [(0, []), (3, []), (4, []), (8, []), (9, []), (11, []), (12, []), (14, []), (15, []), (17, []), (18, []), (19, []), (20, []), (21, []), (23, []), (24, []), (25, []), (27, []), (28, []), (5, [9, 12, 15, 18, 21, 24, 28]), (1, []), (2, []), (6, []), (7, [9, 12, 15, 18, 21, 24, 28]), (10, [12, 15, 18, 21, 24, 28]), (13, [15, 18, 21, 24, 28]), (16, [18, 21, 24, 28]), (26, [18, 21, 28]), (29, [18, 21]), (22, []), (30, []), (31, [])])]⟩
theorem z9.L : LkT P z9.I Tryz.f10 fun C Q s h => z9.cps C N (s 0) h Q := fun {C} hC Q s h hR => eT hC (fun s h => z9.k23 C N Q (s 187) h) hR (fun s h hR => eT hC (fun s h => B.newO h (some [.nils]) fun k h => z9.k22 C N Q (.ptr k 0 0) (.fn (N 425) [] [(.ptr k 0 0)]) (s 187) h) hR (fun s h hR => eT hC (fun s h => z9.k22 C N Q (s 3) (.fn (N 425) [] [(s 3)]) (s 187) h) hR (fun s h hR => eT hC (fun s h => z9.k22 C N Q (s 3) (s 4) (s 187) h) hR (fun s h hR => eT hC (fun s h => z9.k21 C N Q (s 3) (s 4) (s 187) h) hR (fun s h hR => eT hC (fun s h => z9.k20 C N Q (s 3) (s 4) (s 187) h) hR (fun s h hR => eT hC (fun s h => B.al (s 187) (B.pv (V.zg 3 (s 187)) fun c => B.pv (V.zj c) fun l => ze (z9.l19 C N Q (s 3) (s 4) c l (s 187)) [(.int .i64 0)] h)) hR (fun s h hR => eS hC (fun s h => B.al (s 187) (B.pv (V.zg 4 (s 187)) fun a => B.pv (V.zj a) fun d => ze (z9.l7 C N Q (s 3) (s 4) a d (s 187)) [(.int .i64 0)] h)) (eT hC (fun s h => ze (z9.l19 C N Q (s 3) (s 4) (s 46) (s 47) (s 187)) [(s 48)] h) hR (fun s h hR => eK (eL hC [3, 4, 46, 47, 187] [48] (on5 (z9.l19 C N Q)) hR (fun Y3 s h hR => eT hC (fun s h => z9.k18 C N Q Y3 (s 3) (s 4) (s 46) (s 47) (s 48) (s 49) (s 187) h) hR (fun s h hR => eT hC (fun s h => z9.k17 C N Q Y3 (s 3) (s 4) (s 46) (s 47) (s 48) (s 187) h) hR (fun s h hR => eS hC (fun s h => B.pv (V.bin .add (s 48) (.int .i64 1)) fun e => Y3 [e] h) (eK (eT hC (fun s h => z9.k16 C N Q Y3 (s 3) (s 4) (s 46) (s 47) (s 48) (s 187) (s 192) h) hR (fun s h hR => eT hC (fun s h => z9.k15 C N Q Y3 (s 3) (s 4) (s 7) (s 46) (s 47) (s 48) (s 187) (s 192) h) hR (fun s h hR => eS hC (fun s h => z9.k12 C N Q Y3 (s 3) (s 4) (s 7) (s 46) (s 47) (s 48) (s 187) (s 192) h) (eT hC (fun s h => ze (z9.l14 C N Q Y3 (s 3) (s 4) (s 46) (s 47) (s 48) (s 62) (s 63) (s 187) (s 192)) [(s 7), (s 64)] h) hR (fun s h hR => eK (eL hC [3, 4, 46, 47, 48, 62, 63, 187, 192] [7, 64] (on9 (z9.l14 C N Q Y3)) hR (fun Y5 s h hR => e1 hR)))) (fun s h hR => eT hC (fun s h => z9.k11 C N Q Y3 (s 3) (s 4) (s 7) (s 46) (s 47) (s 48) (s 187) (s 192) h) hR (fun s h hR => eS hC (fun s h => z9.k8 C N Q Y3 (s 3) (s 4) (s 7) (s 46) (s 47) (s 48) (s 187) (s 192) h) (eT hC (fun s h => ze (z9.l10 C N Q Y3 (s 3) (s 4) (s 46) (s 47) (s 48) (s 87) (s 88) (s 187) (s 192)) [(s 7), (s 89)] h) hR (fun s h hR => eK (eL hC [3, 4, 46, 47, 48, 87, 88, 187, 192] [7, 89] (on9 (z9.l10 C N Q Y3)) hR (fun Y4 s h hR => e1 hR)))) (fun s h hR => e1 hR))))))) (fun s h hR => e1 hR))))))) (fun s h hR => eS hC (fun s h => B.al (s 187) (B.pv (V.zg 5 (s 187)) fun b => B.pv (V.zj b) fun f => ze (z9.l2 C N Q (s 3) (s 4) b f) [(.int .i64 0)] h)) (eT hC (fun s h => ze (z9.l7 C N Q (s 3) (s 4) (s 108) (s 109) (s 187)) [(s 110)] h) hR (fun s h hR => eK (eL hC [3, 4, 108, 109, 187] [110] (on5 (z9.l7 C N Q)) hR (fun Y2 s h hR => eT hC (fun s h => z9.k6 C N Q Y2 (s 3) (s 4) (s 108) (s 109) (s 110) (s 111) (s 187) h) hR (fun s h hR => eT hC (fun s h => z9.k5 C N Q Y2 (s 3) (s 4) (s 108) (s 109) (s 110) (s 187) h) hR (fun s h hR => eS hC (fun s h => B.pv (V.bin .add (s 110) (.int .i64 1)) fun g => Y2 [g] h) (eK (eT hC (fun s h => B.newO h (zcr [(0, none, (.int .u8 0))] (repL 1 [.int .u8 0])) fun i h => z9.k4 C N Q Y2 (s 3) (s 4) (.sl i 0 0 1 1 1) (s 108) (s 109) (s 110) (s 187) (s 199) h) hR (fun s h hR => eT hC (fun s h => z9.k4 C N Q Y2 (s 3) (s 4) (s 14) (s 108) (s 109) (s 110) (s 187) (s 199) h) hR (fun s h hR => eT hC (fun s h => z9.k3 C N Q Y2 (s 3) (s 4) (s 14) (s 108) (s 109) (s 110) (s 187) (s 199) h) hR (fun s h hR => e1 hR))))) (fun s h hR => e1 hR))))))) (fun s h hR => eS hC (fun s h => B.ld h (s 3) fun j => Q j h) (eT hC (fun s h => ze (z9.l2 C N Q (s 3) (s 4) (s 146) (s 147)) [(s 148)] h) hR (fun s h hR => eK (eL hC [3, 4, 146, 147] [148] (on4 (z9.l2 C N Q)) hR (fun Y1 s h hR => e1 hR)))) (fun s h hR => e1 hR))))))))))
theorem z9.imp : z9.Imp (AC P) N := fun a h Q hR => eF mixed (fn := Tryz.f10) (fun hC => z9.L hC (dn Q) (zbf [a]) h hR)
def zbw.I : Bx := ⟨[1], [12, 18, 24, 30, 37, 46, 53, 62, 69], 78, [(3, [(2, []), (3, []), (8, []), (9, []), (14, []), (15, []), (4, [9, 15]), (10, [15]), (16, []), (0, []), (1, []), (5, []), (6, []), (7, []), (11, []), (12, []), (13, []), (17, []), (18, []), (19, [])])]⟩
theorem zbw.L : LkT P zbw.I Tryz.f13 fun C Q s h => zbw.cps C N (s 0) h Q := fun {C} hC Q s h hR => eT hC (fun s h => zbw.k8 C N Q (s 79) h) hR (fun s h hR => eT hC (fun s h => zbw.k7 C N Q (s 79) h) hR (fun s h hR => eT hC (fun s h => ze (zbw.l6 C N Q (s 79)) [(s 3), (.int .i64 0)] h) hR (fun s h hR => eS hC (fun s h => ze (zbw.l4 C N Q (s 79)) [(s 3), (.int .i64 0)] h) (eT hC (fun s h => ze (zbw.l6 C N Q (s 79)) [(s 3), (s 4)] h) hR (fun s h hR => eK (eL hC [79] [3, 4] (on1 (zbw.l6 C N Q)) hR (fun Y3 s h hR => e1 hR)))) (fun s h hR => eS hC (fun s h => ze (zbw.l2 C N Q (s 79)) [(s 3), (.int .i64 0)] h) (eT hC (fun s h => ze (zbw.l4 C N Q (s 79)) [(s 3), (s 5)] h) hR (fun s h hR => eK (eL hC [79] [3, 5] (on1 (zbw.l4 C N Q)) hR (fun Y2 s h hR => e1 hR)))) (fun s h hR => eS hC (fun s h => Q (s 3) h) (eT hC (fun s h => ze (zbw.l2 C N Q (s 79)) [(s 3), (s 6)] h) hR (fun s h hR => eK (eL hC [79] [3, 6] (on1 (zbw.l2 C N Q)) hR (fun Y1 s h hR => e1 hR)))) (fun s h hR => e1 hR))))))
theorem zbw.imp : zbw.Imp (AC P) N := fun a h Q hR => eF mixed (fn := Tryz.f13) (fun hC => zbw.L hC (dn Q) (zbf [a]) h hR)
def zct.I : Bx := ⟨[], [], 38, [(5, pz [] 17)]⟩
theorem zct.L : LkT P zct.I Tryz.f16 fun C Q s h => zct.cps C N (s 0) h Q := fun {C} hC Q s h hR => eT hC (fun s h => ze (zct.l3 C N Q (s 0)) [(.int .i64 0), (.int .i64 0)] h) hR (fun s h hR => eT hC (fun s h => ze (zct.l3 C N Q (s 0)) [(s 3), (.int .i64 0)] h) hR (fun s h hR => eS hC (fun s h => zct.k1 C N Q (s 0) (s 3) h) (eT hC (fun s h => ze (zct.l3 C N Q (s 0)) [(s 3), (s 4)] h) hR (fun s h hR => eK (eL hC [0] [3, 4] (on1 (zct.l3 C N Q)) hR (fun Y1 s h hR => e1 hR)))) (fun s h hR => e1 hR)))
theorem zct.imp : zct.Imp (AC P) N := fun a h Q hR => eF mixed (fn := Tryz.f16) (fun hC => zct.L hC (dn Q) (zbf [a]) h hR)
def zbv.I : Bx := ⟨[5], [], 39, []⟩
theorem zbv.L : LkT P zbv.I Tryz.f17 fun C Q s h => zbv.cps C N (s 0) h Q := fun {C} hC Q s h hR => eT hC (fun s h => zbv.k5 C N Q (s 0) h) hR (fun s h hR => eT hC (fun s h => ze (zbv.l4 C N Q (s 0)) [(s 3), (.int .i64 0)] h) hR (fun s h hR => eS hC (fun s h => ze (zbv.l2 C N Q (s 0)) [(s 3), (.int .i64 0)] h) (eT hC (fun s h => ze (zbv.l4 C N Q (s 0)) [(s 3), (s 4)] h) hR (fun s h hR => eK (eL hC [0] [3, 4] (on1 (zbv.l4 C N Q)) hR (fun Y2 s h hR => e1 hR)))) (fun s h hR => eS hC (fun s h => B.pv (V.zj (s 0)) fun a => B.pv (V.zgo 2 (s 3) none (some a)) fun b => Q b h) (eT hC (fun s h => ze (zbv.l2 C N Q (s 0)) [(s 3), (s 6)] h) hR (fun s h hR => eK (eL hC [0] [3, 6] (on1 (zbv.l2 C N Q)) hR (fun Y1 s h hR => e1 hR)))) (fun s h hR => e1 hR))))
theorem zbv.imp : zbv.Imp (AC P) N := fun a h Q hR => eF mixed (fn := Tryz.f17) (fun hC => zbv.L hC (dn Q) (zbf [a]) h hR)
def zbd.I : Bx := ⟨[2, 4, 7], [28, 34, 40, 49, 53, 58, 69, 75, 81, 86, 94, 99, 107, 112, 120], 146, [(6, pz [] 20), (10, [(0, []), (1, []), (2, []), (4, []), (5, []), (6, []), (7, []), (3, []), (8, []), (9, []), (10, [])]), (20, pz [(5, [1])] 10), (22, pz [(4, [1]), (5, [1])] 10), (24, pz [(4, [1]), (5, [1])] 10)]⟩
theorem zbd.L : LkT P zbd.I Tryz.f18 fun C Q s h => zbd.cps C N (s 0) h Q := fun {C} hC Q s h hR => eT hC (fun s h => zbd.k10 C N Q (s 0) (s 148) h) hR (fun s h hR => eT hC (fun s h => B.pv (V.zj (s 0)) fun a => ze (zbd.l9 C N Q (s 0) (s 0) a) [.nils, (.int .i64 0), (s 148), (s 150)] h) hR (fun s h hR => eT hC (fun s h => B.pv (V.zj (s 0)) fun a => ze (zbd.l9 C N Q (s 0) (s 0) a) [(s 5), (.int .i64 0), (s 148), (s 150)] h) hR (fun s h hR => eS hC (fun s h => zbd.k1 C N Q (s 5) (s 148) (s 150) h) (eT hC (fun s h => ze (zbd.l9 C N Q (s 0) (s 12) (s 13)) [(s 5), (s 14), (s 148), (s 150)] h) hR (fun s h hR => eK (eL hC [0, 12, 13] [5, 14, 148, 150] (on3 (zbd.l9 C N Q)) hR (fun Y1 s h hR => eT hC (fun s h => B.cond (s 15) (zbd.k8 C N Q Y1 (s 0) (s 5) (s 12) (s 13) (s 14) (s 148) (s 150) h) (zbd.k1 C N Q (s 5) (s 148) (s 150) h)) hR (fun s h hR => eT hC (fun s h => zbd.k8 C N Q Y1 (s 0) (s 5) (s 12) (s 13) (s 14) (s 148) (s 150) h) hR (fun s h hR => eS hC (fun s h => B.pv (V.bin .add (s 14) (.int .i64 1)) fun b => Y1 [(s 5), b, (s 148), (s 150)] h) (eK (eT hC (fun s h => zbd.k7 C N Q Y1 (s 0) (s 5) (s 6) (s 12) (s 13) (s 14) (s 148) (s 150) (s 153) h) hR (fun s h hR => eT hC (fun s h => zbd.k6 C N Q Y1 (s 0) (s 5) (s 12) (s 13) (s 14) (s 148) (s 150) (s 153) h) hR (fun s h hR => eT hC (fun s h => zbd.k5 C N Q Y1 (s 0) (s 5) (s 12) (s 13) (s 14) (s 148) (s 150) (s 153) h) hR (fun s h hR => eT hC (fun s h => zbd.k4 C N Q Y1 (s 0) (s 5) (s 12) (s 13) (s 14) (s 148) (s 150) (s 153) h) hR (fun s h hR => eT hC (fun s h => zbd.k3 C N Q Y1 (s 0) (s 5) (s 8) (s 9) (s 12) (s 13) (s 14) (s 148) (s 150) (s 153) h) hR (fun s h hR => eT hC (fun s h => zbd.k2 C N Q Y1 (s 0) (s 5) (s 8) (s 9) (s 12) (s 13) (s 14) (s 148) (s 150) h) hR (fun s h hR => e1 hR)))))))) (fun s h hR => e1 hR))))))) (fun s h hR => e1 hR))))
theorem zbd.imp : zbd.Imp (AC P) N := fun a h Q hR => eF mixed (fn := Tryz.f18) (fun hC => zbd.L hC (dn Q) (zbf [a]) h hR)
def zb7.I : Bx := ⟨[], [], 58, [(7, pz [(30, [25])] 35)]⟩
theorem zb7.L : LkT P zb7.I Tryz.f19 fun C Q s h => zb7.cps C N (s 0) (s 1) h Q := fun {C} hC Q s h hR => eT hC (fun s h => zb7.k4 C N Q (s 0) (s 1) h) hR (fun s h hR => eT hC (fun s h => zb7.k3 C N Q (s 0) (s 1) h) hR (fun s h hR => eT hC (fun s h => ze (zb7.l2 C N Q (s 1) (s 5)) [(.int .i64 0)] h) hR (fun s h hR => eS hC (fun s h => Q (.bool true) h) (eT hC (fun s h => ze (zb7.l2 C N Q (s 1) (s 5)) [(s 6)] h) hR (fun s h hR => eK (eL hC [1, 5] [6] (on2 (zb7.l2 C N Q)) hR (fun Y1 s h hR => e1 hR)))) (fun s h hR => e1 hR))))
theorem zb7.imp : zb7.Imp (AC P) N := fun a b h Q hR => eF mixed (fn := Tryz.f19) (fun hC => zb7.L hC (dn Q) (zbf [a, b]) h hR)
def zbx.I : Bx := ⟨[], [], 32, []⟩
theorem zbx.L : LkT P zbx.I Tryz.f20 fun C Q s h => zbx.cps C N (s 0) h Q := fun {C} hC Q s h hR => eS hC (fun s h => zbx.k3 C N Q (s 0) h) (eT hC (fun s h => ze (zbx.l5 C N Q (s 0)) [(s 2)] h) hR (fun s h hR => eK (eL hC [0] [2] (on1 (zbx.l5 C N Q)) hR (fun Y2 s h hR => e1 hR)))) (fun s h hR => eT hC (fun s h => ze (zbx.l2 C N Q (s 3)) [(.int .i64 0)] h) hR (fun s h hR => eT hC (fun s h => ze (zbx.l2 C N Q (s 3)) [(s 4)] h) hR (fun s h hR => eK (eL hC [3] [4] (on1 (zbx.l2 C N Q)) hR (fun Y1 s h hR => e1 hR)))))
theorem zbx.imp : zbx.Imp (AC P) N := fun a h Q hR => eF mixed (fn := Tryz.f20) (fun hC => zbx.L hC (dn Q) (zbf [a]) h hR)
def zbe.I : Bx := ⟨[2], [], 115, [(6, [(0, []), (1, []), (2, []), (3, []), (4, []), (5, []), (6, []), (7, []), (8, []), (10, []), (11, []), (12, []), (13, []), (14, []), (9, []), (15, []), (16, []), (17, [])]), (18, [(0, []), (1, []), (2, []), (3, []), (4, []), (6, []), (7, []), (8, []), (9, []), (10, []), (5, []), (11, []), (12, []), (13, []), (14, []), (15, []), (16, []), (17, []), (18, []), (20, []), (21, []), (22, []), (23, []), (24, []), (19, []), (25, []), (26, []), (27, [])])]⟩
theorem zbe.L : LkT P zbe.I Tryz.f21 fun C Q s h => zbe.cps C N (s 0) h Q := fun {C} hC Q s h hR => eT hC (fun s h => zbe.k7 C N Q (s 0) (s 117) h) hR (fun s h hR => eT hC (fun s h => ze (zbe.l6 C N Q (s 0) (s 4)) [.nils, (.int .i64 0), (s 117)] h) hR (fun s h hR => eT hC (fun s h => ze (zbe.l6 C N Q (s 0) (s 4)) [(s 5), (.int .i64 0), (s 117)] h) hR (fun s h hR => eS hC (fun s h => B.ldn h (s 4) 6 fun a => B.call C (N 449) [a] h fun b h => zbe.k4 C N Q (s 4) (s 5) b (s 117) h) (eT hC (fun s h => ze (zbe.l6 C N Q (s 0) (s 4)) [(s 5), (s 6), (s 117)] h) hR (fun s h hR => eK (eL hC [0, 4] [5, 6, 117] (on2 (zbe.l6 C N Q)) hR (fun Y2 s h hR => e1 hR)))) (fun s h hR => eT hC (fun s h => zbe.k4 C N Q (s 4) (s 5) (s 7) (s 117) h) hR (fun s h hR => eT hC (fun s h => ze (zbe.l3 C N Q (s 4) (s 5) (s 7)) [(.int .i64 0), (s 117)] h) hR (fun s h hR => eS hC (fun s h => zbe.k1 C N Q (s 4) (s 117) h) (eT hC (fun s h => ze (zbe.l3 C N Q (s 4) (s 5) (s 7)) [(s 8), (s 117)] h) hR (fun s h hR => eK (eL hC [4, 5, 7] [8, 117] (on3 (zbe.l3 C N Q)) hR (fun Y1 s h hR => e1 hR)))) (fun s h hR => e1 hR)))))))
theorem zbe.imp : zbe.Imp (AC P) N := fun a h Q hR => eF mixed (fn := Tryz.f21) (fun hC => zbe.L hC (dn Q) (zbf [a]) h hR)
def zcp.I : Bx := ⟨[2, 3], [5, 7, 11, 13, 18, 20, 25, 27, 32, 34, 39, 41], 45, []⟩
theorem zcp.L : LkT P zcp.I Tryz.f22 fun C Q s h => zcp.cps C N (s 0) (s 1) h Q := fun {C} hC Q s h hR => e1 hR
theorem zcp.imp : zcp.Imp (AC P) N := fun a b h Q hR => eF mixed (fn := Tryz.f22) (fun hC => zcp.L hC (dn Q) (zbf [a, b]) h hR)
def zb2.I : Bx := ⟨[], [], 21, []⟩
theorem zb2.L : LkT P zb2.I Tryz.f23 fun C Q s h => zb2.cps C N (s 0) h Q := fun {C} hC Q s h hR => eT hC (fun s h => zb2.k3 C N Q (s 0) h) hR (fun s h hR => eT hC (fun s h => ze (zb2.l2 C N Q (s 0) (s 3)) [(.int .i64 0)] h) hR (fun s h hR => eS hC (fun s h => B.call C (N 62) [(s 3)] h fun a h => Q a h) (eT hC (fun s h => ze (zb2.l2 C N Q (s 0) (s 3)) [(s 4)] h) hR (fun s h hR => eK (eL hC [0, 3] [4] (on2 (zb2.l2 C N Q)) hR (fun Y1 s h hR => e1 hR)))) (fun s h hR => e1 hR)))
theorem zb2.imp : zb2.Imp (AC P) N := fun a h Q hR => eF mixed (fn := Tryz.f23) (fun hC => zb2.L hC (dn Q) (zbf [a]) h hR)
def zca.I : Bx := ⟨[5], [], 40, [(7, [(0, []), (1, []), (2, []), (3, []), (4, []), (6, []), (5, [0]), (7, [0]), (8, []), (9, []), (10, []), (11, [])])]⟩
theorem zca.L : LkT P zca.I Tryz.f25 fun C Q s h => zca.cps C N (s 0) (s 1) (s 2) h Q := fun {C} hC Q s h hR => eT hC (fun s h => zca.k5 C N Q (s 3) (s 4) (s 45) h) hR (fun s h hR => eT hC (fun s h => zca.k4 C N Q (s 3) (s 4) (s 8) (s 9) h) hR (fun s h hR => eT hC (fun s h => B.newO h (some [.nils]) fun c h => zca.k3 C N Q (s 3) (s 4) (s 8) (.ptr c 0 0) h) hR (fun s h hR => eT hC (fun s h => zca.k3 C N Q (s 3) (s 4) (s 8) (s 10) h) hR (fun s h hR => eS hC (fun s h => B.ld h (s 10) fun a => Q (.tup [a, (.int .i64 0)]) h) (eT hC (fun s h => zwk C (s 26) (W1 fun b h Z1 => zca.r2 C N Q (s 3) (s 4) (s 10) b h Z1) h (RK [(0, fun h => B.ld h (s 10) fun a => Q (.tup [a, (.int .i64 0)]) h)])) hR (fun s h hR => eK (eR1 hC 26 27 [3, 4, 10] (fun kv b h Z1 => match kv with | [e, f, d] => zca.r2 C N Q e f d b h Z1 | _ => False) hR (rk_cons (fun h hR => e0 hR) rk_nil) (fun Z1 s h hR => e1 hR)))) (fun s h hR => e1 hR)))))
theorem zca.imp : zca.Imp (AC P) N := fun a b c h Q hR => eF mixed (fn := Tryz.f25) (fun hC => zca.L hC (dn Q) (zbf [a, b, c]) h hR)
def zbl.I : Bx := ⟨[6, 13, 14], [29, 36, 45, 61, 67, 73], 99, [(9, pz [] 14), (10, pz [(7, [3])] 30)]⟩
theorem zbl.L : LkT P zbl.I Tryz.f26 fun C Q s h => zbl.cps C N (s 0) (s 1) (s 2) h Q := fun {C} hC Q s h hR => eT hC (fun s h => B.call C (N 427) [(s 0), (s 1), (.int .i64 0)] h fun b h => zbl.k4 C N Q (s 0) (s 1) (s 2) b (s 105) h) hR (fun s h hR => eT hC (fun s h => zbl.k4 C N Q (s 0) (s 1) (s 2) (s 8) (s 105) h) hR (fun s h hR => eT hC (fun s h => B.pv (V.zj (s 2)) fun a => ze (zbl.l3 C N Q (s 0) (s 1) (s 8) (s 2) a (s 105)) [.nils, (.int .i64 0), (.bool true), (.int .i64 0)] h) hR (fun s h hR => eT hC (fun s h => B.pv (V.zj (s 2)) fun a => ze (zbl.l3 C N Q (s 0) (s 1) (s 8) (s 2) a (s 105)) [(s 9), (.int .i64 0), (.bool true), (.int .i64 0)] h) hR (fun s h hR => eT hC (fun s h => B.pv (V.zj (s 2)) fun a => ze (zbl.l3 C N Q (s 0) (s 1) (s 8) (s 2) a (s 105)) [(s 9), (s 10), (s 11), (.int .i64 0)] h) hR (fun s h hR => eS hC (fun s h => zbl.k1 C N Q (s 9) (s 11) (s 105) h) (eT hC (fun s h => ze (zbl.l3 C N Q (s 0) (s 1) (s 8) (s 23) (s 24) (s 105)) [(s 9), (s 10), (s 11), (s 25)] h) hR (fun s h hR => eK (eL hC [0, 1, 8, 23, 24, 105] [9, 10, 11, 25] (on6 (zbl.l3 C N Q)) hR (fun Y1 s h hR => e1 hR)))) (fun s h hR => e1 hR))))))
theorem zbl.imp : zbl.Imp (AC P) N := fun a b c h Q hR => eF mixed (fn := Tryz.f26) (fun hC => zbl.L hC (dn Q) (zbf [a, b, c]) h hR)
def zgq.I : Bx := ⟨[], [], 38, []⟩
theorem zgq.L : LkT P zgq.I Tryz.f27 fun C Q s h => zgq.cps C N (s 0) (s 1) (s 2) h Q := fun {C} hC Q s h hR => e1 hR
theorem zgq.imp : zgq.Imp (AC P) N := fun a b c h Q hR => eF mixed (fn := Tryz.f27) (fun hC => zgq.L hC (dn Q) (zbf [a, b, c]) h hR)
def zcq.I : Bx := ⟨[], [], 26, [(6, pz [] 9)]⟩
theorem zcq.L : LkT P zcq.I Tryz.f33 fun C Q s h => zcq.cps C N (s 0) (s 1) h Q := fun {C} hC Q s h hR => eT hC (fun s h => zcq.k3 C N Q (s 0) (s 1) h) hR (fun s h hR => eT hC (fun s h => ze (zqo.l4  Q (s 0) (s 1)) [(.int .i64 0)] h) hR (fun s h hR => eS hC (fun s h => Q (.bool true) h) (eT hC (fun s h => ze (zqo.l4  Q (s 0) (s 1)) [(s 5)] h) hR (fun s h hR => eK (eL hC [0, 1] [5] (on2 (zqo.l4  Q)) hR (fun Y1 s h hR => e1 hR)))) (fun s h hR => e1 hR)))
theorem zcq.imp : zcq.Imp (AC P) N := fun a b h Q hR => eF mixed (fn := Tryz.f33) (fun hC => zcq.L hC (dn Q) (zbf [a, b]) h hR)
def zd9.I : Bx := ⟨[0], [], 7, []⟩
theorem zd9.L : LkT P zd9.I Tryz.f39 fun C Q s h => zd9.cps C N h Q := fun {C} hC Q s h hR => e1 hR
theorem zd9.imp : zd9.Imp (AC P) N := fun h Q hR => eF mixed (fn := Tryz.f39) (fun hC => zd9.L hC (dn Q) (zbf []) h hR)
def zb1.I : Bx := ⟨[1, 5, 7, 9], [10, 14, 19, 24, 29, 34, 38, 55, 62, 68, 85, 92, 98, 115, 122], 129, [(5, pz [] 22), (10, pz [] 22), (15, pz [] 22)]⟩
theorem zb1.L : LkT P zb1.I Tryz.f46 fun C Q s h => zb1.cps C N (s 0) h Q := fun {C} hC Q s h hR => eT hC (fun s h => zb1.k7 C N Q (s 130) h) hR (fun s h hR => eT hC (fun s h => B.al (s 130) (B.pv (V.zg 3 (s 130)) fun a => B.pv (V.zj a) fun e => ze (zb1.l6 C N Q a e (s 130)) [(s 3), (.int .i64 0)] h)) hR (fun s h hR => eS hC (fun s h => B.al (s 130) (B.pv (V.zg 4 (s 130)) fun b => B.pv (V.zj b) fun f => ze (zb1.l4 C N Q b f (s 130)) [(s 3), (.int .i64 0)] h)) (eT hC (fun s h => ze (zb1.l6 C N Q (s 39) (s 40) (s 130)) [(s 3), (s 41)] h) hR (fun s h hR => eK (eL hC [39, 40, 130] [3, 41] (on3 (zb1.l6 C N Q)) hR (fun Y3 s h hR => e1 hR)))) (fun s h hR => eS hC (fun s h => B.al (s 130) (B.pv (V.zg 5 (s 130)) fun c => B.pv (V.zj c) fun d => ze (zb1.l2 C N Q c d (s 130)) [(s 3), (.int .i64 0)] h)) (eT hC (fun s h => ze (zb1.l4 C N Q (s 69) (s 70) (s 130)) [(s 3), (s 71)] h) hR (fun s h hR => eK (eL hC [69, 70, 130] [3, 71] (on3 (zb1.l4 C N Q)) hR (fun Y2 s h hR => e1 hR)))) (fun s h hR => eS hC (fun s h => Q (s 3) h) (eT hC (fun s h => ze (zb1.l2 C N Q (s 99) (s 100) (s 130)) [(s 3), (s 101)] h) hR (fun s h hR => eK (eL hC [99, 100, 130] [3, 101] (on3 (zb1.l2 C N Q)) hR (fun Y1 s h hR => e1 hR)))) (fun s h hR => e1 hR)))))
theorem zb1.imp : zb1.Imp (AC P) N := fun a h Q hR => eF mixed (fn := Tryz.f46) (fun hC => zb1.L hC (dn Q) (zbf [a]) h hR)
def zep.I : Bx := ⟨[], [], 12, [(0, pz [(3, [0])] 8)]⟩
theorem zep.L : LkT P zep.I Tryz.f47 fun C Q s h => zep.cps C N (s 0) (s 1) (s 2) h Q := fun {C} hC Q s h hR => e1 hR
theorem zep.imp : zep.Imp (AC P) N := fun a b c h Q hR => eF mixed (fn := Tryz.f47) (fun hC => zep.L hC (dn Q) (zbf [a, b, c]) h hR)
def zfb.I : Bx := ⟨[], [], 5, []⟩
theorem zfb.L : LkT P zfb.I Tryz.f48 fun C Q s h => zfb.cps C N (s 0) h Q := fun {C} hC Q s h hR => e1 hR
theorem zfb.imp : zfb.Imp (AC P) N := fun a h Q hR => eF mixed (fn := Tryz.f48) (fun hC => zfb.L hC (dn Q) (zbf [a]) h hR)
def zcm.I : Bx := ⟨[], [], 27, []⟩
theorem zcm.L : LkT P zcm.I Tryz.f49 fun C Q s h => zcm.cps C N (s 0) (s 1) h Q := fun {C} hC Q s h hR => eT hC (fun s h => 0 < 1 /\ B.mks h 1 (some [.int .u8 0]) (s 1) (s 1) fun b h => B.pv (V.zj b) fun a => ze (zcm.l2 C N Q (s 0) (s 1) b a) [(.int .i64 0)] h) hR (fun s h hR => eT hC (fun s h => B.pv (V.zj (s 5)) fun a => ze (zcm.l2 C N Q (s 0) (s 1) (s 5) a) [(.int .i64 0)] h) hR (fun s h hR => eS hC (fun s h => Q (s 5) h) (eT hC (fun s h => ze (zcm.l2 C N Q (s 0) (s 1) (s 5) (s 10)) [(s 11)] h) hR (fun s h hR => eK (eL hC [0, 1, 5, 10] [11] (on4 (zcm.l2 C N Q)) hR (fun Y1 s h hR => e1 hR)))) (fun s h hR => e1 hR)))
theorem zcm.imp : zcm.Imp (AC P) N := fun a b h Q hR => eF mixed (fn := Tryz.f49) (fun hC => zcm.L hC (dn Q) (zbf [a, b]) h hR)
def zfe.I : Bx := ⟨[], [], 16, []⟩
theorem zfe.L : LkT P zfe.I Tryz.f50 fun C Q s h => zfe.cps C N (s 0) h Q := fun {C} hC Q s h hR => e1 hR
theorem zfe.imp : zfe.Imp (AC P) N := fun a h Q hR => eF mixed (fn := Tryz.f50) (fun hC => zfe.L hC (dn Q) (zbf [a]) h hR)
def zbk.I : Bx := ⟨[1], [6, 10, 15, 20, 25, 30, 35, 41, 52, 59, 69, 75, 86, 93, 103, 109, 120, 127], 136, [(6, pz [] 27), (11, pz [] 27), (16, pz [] 27)]⟩
theorem zbk.L : LkT P zbk.I Tryz.f57 fun C Q s h => zbk.cps C N (s 0) h Q := fun {C} hC Q s h hR => eT hC (fun s h => zbk.k7 C N Q (s 137) h) hR (fun s h hR => eT hC (fun s h => ze (zbk.l6 C N Q (s 137)) [(.int .i64 0)] h) hR (fun s h hR => eS hC (fun s h => ze (zbk.l4 C N Q (s 137)) [(.int .i64 0)] h) (eT hC (fun s h => ze (zbk.l6 C N Q (s 137)) [(s 3)] h) hR (fun s h hR => eK (eL hC [137] [3] (on1 (zbk.l6 C N Q)) hR (fun Y3 s h hR => e1 hR)))) (fun s h hR => eS hC (fun s h => ze (zbk.l2 C N Q (s 137)) [(.int .i64 0)] h) (eT hC (fun s h => ze (zbk.l4 C N Q (s 137)) [(s 4)] h) hR (fun s h hR => eK (eL hC [137] [4] (on1 (zbk.l4 C N Q)) hR (fun Y2 s h hR => e1 hR)))) (fun s h hR => eS hC (fun s h => Q (.bool true) h) (eT hC (fun s h => ze (zbk.l2 C N Q (s 137)) [(s 5)] h) hR (fun s h hR => eK (eL hC [137] [5] (on1 (zbk.l2 C N Q)) hR (fun Y1 s h hR => e1 hR)))) (fun s h hR => e1 hR)))))
theorem zbk.imp : zbk.Imp (AC P) N := fun a h Q hR => eF mixed (fn := Tryz.f57) (fun hC => zbk.L hC (dn Q) (zbf [a]) h hR)
def zb6.I : Bx := ⟨[], [], 24, []⟩
theorem zb6.L : LkT P zb6.I Tryz.f58 fun C Q s h => zb6.cps C N (s 0) (s 1) h Q := fun {C} hC Q s h hR => eT hC (fun s h => B.pv (V.bin .sub (s 1) (.int .i64 1)) fun a => ze (zb6.l2 C N Q (s 0)) [.nils, a] h) hR (fun s h hR => eT hC (fun s h => B.pv (V.bin .sub (s 1) (.int .i64 1)) fun a => ze (zb6.l2 C N Q (s 0)) [(s 5), a] h) hR (fun s h hR => eS hC (fun s h => Q (s 5) h) (eT hC (fun s h => ze (zb6.l2 C N Q (s 0)) [(s 5), (s 6)] h) hR (fun s h hR => eK (eL hC [0] [5, 6] (on1 (zb6.l2 C N Q)) hR (fun Y1 s h hR => e1 hR)))) (fun s h hR => e1 hR)))
theorem zb6.imp : zb6.Imp (AC P) N := fun a b h Q hR => eF mixed (fn := Tryz.f58) (fun hC => zb6.L hC (dn Q) (zbf [a, b]) h hR)
def zbh.I : Bx := ⟨[1, 2], [6, 9, 16, 23, 32, 41, 48, 55, 62], 68, [(1, [(0, []), (1, []), (3, []), (4, []), (5, []), (6, []), (2, [4]), (7, []), (8, []), (9, [])])]⟩
theorem zbh.L : LkT P zbh.I Tryz.f59 fun C Q s h => zbh.cps C N (s 0) h Q := fun {C} hC Q s h hR => eT hC (fun s h => zbh.k7 C N Q (s 69) (s 70) h) hR (fun s h hR => eT hC (fun s h => ze (zbh.l6 C N Q (s 69) (s 70)) [(s 3), (.int .i64 0)] h) hR (fun s h hR => eS hC (fun s h => zbh.k4 C N Q (s 3) (s 69) (s 70) h) (eT hC (fun s h => ze (zbh.l6 C N Q (s 69) (s 70)) [(s 3), (s 4)] h) hR (fun s h hR => eK (eL hC [69, 70] [3, 4] (on2 (zbh.l6 C N Q)) hR (fun Y2 s h hR => e1 hR)))) (fun s h hR => eT hC (fun s h => ze (zbh.l3 C N Q (s 69) (s 70)) [(s 3), (.int .i64 0)] h) hR (fun s h hR => eS hC (fun s h => zbh.k1 C N Q (s 3) (s 69) (s 70) h) (eT hC (fun s h => ze (zbh.l3 C N Q (s 69) (s 70)) [(s 3), (s 5)] h) hR (fun s h hR => eK (eL hC [69, 70] [3, 5] (on2 (zbh.l3 C N Q)) hR (fun Y1 s h hR => e1 hR)))) (fun s h hR => e1 hR)))))
theorem zbh.imp : zbh.Imp (AC P) N := fun a h Q hR => eF mixed (fn := Tryz.f59) (fun hC => zbh.L hC (dn Q) (zbf [a]) h hR)
def zb9.I : Bx := ⟨[1, 2], [5, 7, 10, 11, 14, 15, 18, 27], 33, [(4, [(0, []), (1, []), (3, []), (4, []), (5, []), (7, []), (8, []), (9, []), (11, []), (12, []), (14, []), (2, [5, 9, 12]), (6, [9, 12]), (10, [12]), (13, []), (15, []), (16, []), (17, []), (18, [])])]⟩
theorem zb9.L : LkT P zb9.I Tryz.f60 fun C Q s h => zb9.cps C N (s 0) h Q := fun {C} hC Q s h hR => eT hC (fun s h => B.al (s 34) (B.pv (V.zg 5 (s 34)) fun a => B.cond a (zb9.k1 C N Q (.int .u8 1) (s 34) (s 35) h) (zb9.k1 C N Q (.int .u8 0) (s 34) (s 35) h))) hR (fun s h hR => eT hC (fun s h => B.al (s 34) (B.pv (V.zg 5 (s 34)) fun a => B.cond a (zb9.k1 C N Q (.int .u8 1) (s 34) (s 35) h) (zb9.k1 C N Q (s 3) (s 34) (s 35) h))) hR (fun s h hR => eT hC (fun s h => zb9.k1 C N Q (s 3) (s 34) (s 35) h) hR (fun s h hR => e1 hR)))
theorem zb9.imp : zb9.Imp (AC P) N := fun a h Q hR => eF mixed (fn := Tryz.f60) (fun hC => zb9.L hC (dn Q) (zbf [a]) h hR)
def zdh.I : Bx := ⟨[1, 2], [4, 7, 10, 13, 16, 19, 23, 30], 36, [(1, [(0, []), (1, []), (3, []), (4, []), (6, []), (7, []), (9, []), (10, []), (11, []), (12, []), (13, []), (15, []), (16, []), (17, []), (19, []), (20, []), (2, [4, 7, 10, 13, 16, 20]), (5, [7, 10, 13, 16, 20]), (8, [10, 13, 16, 20]), (18, [10, 13, 20]), (21, [10, 13]), (14, []), (22, []), (23, []), (24, [])])]⟩
theorem zdh.L : LkT P zdh.I Tryz.f61 fun C Q s h => zdh.cps C N (s 0) h Q := fun {C} hC Q s h hR => e1 hR
theorem zdh.imp : zdh.Imp (AC P) N := fun a h Q hR => eF mixed (fn := Tryz.f61) (fun hC => zdh.L hC (dn Q) (zbf [a]) h hR)
def zdx.I : Bx := ⟨[2, 3], [5, 7, 11, 13], 17, []⟩
theorem zdx.L : LkT P zdx.I Tryz.f62 fun C Q s h => zdx.cps C N (s 0) (s 1) h Q := fun {C} hC Q s h hR => e1 hR
theorem zdx.imp : zdx.Imp (AC P) N := fun a b h Q hR => eF mixed (fn := Tryz.f62) (fun hC => zdx.L hC (dn Q) (zbf [a, b]) h hR)
def zdu.I : Bx := ⟨[], [], 162, []⟩
theorem zdu.L : LkT P zdu.I Tryz.f64 fun C Q s h => zdu.cps C N (s 0) h Q := fun {C} hC Q s h hR => e1 hR
theorem zdu.imp : zdu.Imp (AC P) N := fun a h Q hR => eF mixed (fn := Tryz.f64) (fun hC => zdu.L hC (dn Q) (zbf [a]) h hR)
def zec.I : Bx := ⟨[1, 2], [3, 6, 7, 10], 12, []⟩
theorem zec.L : LkT P zec.I Tryz.f65 fun C Q s h => zec.cps C N (s 0) h Q := fun {C} hC Q s h hR => e1 hR
theorem zec.imp : zec.Imp (AC P) N := fun a h Q hR => eF mixed (fn := Tryz.f65) (fun hC => zec.L hC (dn Q) (zbf [a]) h hR)
def zdp.I : Bx := ⟨[4], [], 10, []⟩
theorem zdp.L : LkT P zdp.I Tryz.f66 fun C Q s h => zdp.cps C N (s 0) (s 1) h Q := fun {C} hC Q s h hR => e1 hR
theorem zdp.imp : zdp.Imp (AC P) N := fun a b h Q hR => eF mixed (fn := Tryz.f66) (fun hC => zdp.L hC (dn Q) (zbf [a, b]) h hR)
def zdn.I : Bx := ⟨[], [], 8, []⟩
theorem zdn.L : LkT P zdn.I Tryz.f67 fun C Q s h => zdn.cps C N (s 0) (s 1) h Q := fun {C} hC Q s h hR => e1 hR
theorem zdn.imp : zdn.Imp (AC P) N := fun a b h Q hR => eF mixed (fn := Tryz.f67) (fun hC => zdn.L hC (dn Q) (zbf [a, b]) h hR)
def zn.I : Bx := ⟨[], [], 55, []⟩
theorem zn.L : LkT P zn.I Tryz.f68 fun C Q s h => zn.cps C N (s 0) (s 1) h Q := fun {C} hC Q s h hR => eT hC (fun s h => zn.k5 C N Q (s 0) (s 1) h) hR (fun s h hR => eT hC (fun s h => zn.k4 C N Q (s 0) (s 1) (.int .i64 0) h) hR (fun s h hR => eT hC (fun s h => zn.k4 C N Q (s 0) (s 1) (s 5) h) hR (fun s h hR => eS hC (fun s h => zn.k1 C N Q (s 0) (s 1) (s 5) h) (eT hC (fun s h => ze (zn.l3 C N Q (s 0) (s 1) (s 33) (s 34)) [(s 5), (s 35)] h) hR (fun s h hR => eK (eL hC [0, 1, 33, 34] [5, 35] (on4 (zn.l3 C N Q)) hR (fun Y1 s h hR => e1 hR)))) (fun s h hR => e1 hR))))
theorem zn.imp : zn.Imp (AC P) N := fun a b h Q hR => eF mixed (fn := Tryz.f68) (fun hC => zn.L hC (dn Q) (zbf [a, b]) h hR)
def zba.I : Bx := ⟨[4, 5, 7], [31, 32, 37, 51, 57], 59, [(11, pz [(3, [1])] 8)]⟩
theorem zba.L : LkT P zba.I Tryz.f69 fun C Q s h => zba.cps C N (s 0) (s 1) h Q := fun {C} hC Q s h hR => eT hC (fun s h => zba.k5 C N Q (s 0) (s 1) (s 63) h) hR (fun s h hR => eT hC (fun s h => B.call C (N 432) [(s 0), (.int .i64 1)] h fun a h => ze (zba.l4 C N Q (s 0) (s 63)) [a, (s 64)] h) hR (fun s h hR => eS hC (fun s h => B.call C (N 432) [(s 0), (.int .i64 1)] h fun b h => ze (zba.l2 C N Q (s 0) (s 63)) [b, (s 64)] h) (eT hC (fun s h => ze (zba.l4 C N Q (s 0) (s 63)) [(s 6), (s 64)] h) hR (fun s h hR => eK (eL hC [0, 63] [6, 64] (on2 (zba.l4 C N Q)) hR (fun Y2 s h hR => e1 hR)))) (fun s h hR => eS hC (fun s h => B.pv (V.zcd 0 4 (s 64)) fun c => B.pv (V.setN 0 4 c (s 63)) fun d => B.pv (oneOf (ze9 (V.zcd 0 4 d) (some []))) fun v => Q v h) (eT hC (fun s h => ze (zba.l2 C N Q (s 0) (s 63)) [(s 8), (s 64)] h) hR (fun s h hR => eK (eL hC [0, 63] [8, 64] (on2 (zba.l2 C N Q)) hR (fun Y1 s h hR => e1 hR)))) (fun s h hR => e1 hR))))
theorem zba.imp : zba.Imp (AC P) N := fun a b h Q hR => eF mixed (fn := Tryz.f69) (fun hC => zba.L hC (dn Q) (zbf [a, b]) h hR)
def zco.I : Bx := ⟨[4, 5], [14, 15, 16, 17, 20, 24], 26, []⟩
theorem zco.L : LkT P zco.I Tryz.f70 fun C Q s h => zco.cps C N (s 0) (s 1) h Q := fun {C} hC Q s h hR => e1 hR
theorem zco.imp : zco.Imp (AC P) N := fun a b h Q hR => eF mixed (fn := Tryz.f70) (fun hC => zco.L hC (dn Q) (zbf [a, b]) h hR)
def zcj.I : Bx := ⟨[4, 5], [12, 17, 18, 22, 26, 29], 31, []⟩
theorem zcj.L : LkT P zcj.I Tryz.f71 fun C Q s h => zcj.cps C N (s 0) (s 1) h Q := fun {C} hC Q s h hR => e1 hR
theorem zcj.imp : zcj.Imp (AC P) N := fun a b h Q hR => eF mixed (fn := Tryz.f71) (fun hC => zcj.L hC (dn Q) (zbf [a, b]) h hR)
def zd5.I : Bx := ⟨[2, 3], [5, 7, 11, 13], 17, []⟩
theorem zd5.L : LkT P zd5.I Tryz.f72 fun C Q s h => zd5.cps C N (s 0) (s 1) h Q := fun {C} hC Q s h hR => e1 hR
theorem zd5.imp : zd5.Imp (AC P) N := fun a b h Q hR => eF mixed (fn := Tryz.f72) (fun hC => zd5.L hC (dn Q) (zbf [a, b]) h hR)
def zdy.I : Bx := ⟨[], [], 10, []⟩
theorem zdy.L : LkT P zdy.I Tryz.f73 fun C Q s h => zdy.cps C N (s 0) (s 1) h Q := fun {C} hC Q s h hR => e1 hR
theorem zdy.imp : zdy.Imp (AC P) N := fun a b h Q hR => eF mixed (fn := Tryz.f73) (fun hC => zdy.L hC (dn Q) (zbf [a, b]) h hR)
def zb.I : Bx := ⟨[8, 9], [], 32, []⟩
theorem zb.L : LkT P zb.I Tryz.f74 fun C Q s h => zb.cps C N (s 0) (s 1) (s 2) h Q := fun {C} hC Q s h hR => eT hC (fun s h => zb.k3 C N Q (s 0) (s 1) (s 2) h) hR (fun s h hR => eT hC (fun s h => B.pv (V.zj (s 0)) fun a => ze (zb.l2 C N Q (s 1) (s 2) (s 0) a) [(.int .i64 0)] h) hR (fun s h hR => eS hC (fun s h => Q (.bool true) h) (eT hC (fun s h => ze (zb.l2 C N Q (s 1) (s 2) (s 15) (s 16)) [(s 17)] h) hR (fun s h hR => eK (eL hC [1, 2, 15, 16] [17] (on4 (zb.l2 C N Q)) hR (fun Y1 s h hR => e1 hR)))) (fun s h hR => e1 hR)))
theorem zb.imp : zb.Imp (AC P) N := fun a b c h Q hR => eF mixed (fn := Tryz.f74) (fun hC => zb.L hC (dn Q) (zbf [a, b, c]) h hR)
def zed.I : Bx := ⟨[2, 3], [9, 11, 16, 18], 22, []⟩
theorem zed.L : LkT P zed.I Tryz.f75 fun C Q s h => zed.cps C N (s 0) (s 1) h Q := fun {C} hC Q s h hR => e1 hR
theorem zed.imp : zed.Imp (AC P) N := fun a b h Q hR => eF mixed (fn := Tryz.f75) (fun hC => zed.L hC (dn Q) (zbf [a, b]) h hR)
def zeb.I : Bx := ⟨[1], [2, 5], 8, []⟩
theorem zeb.L : LkT P zeb.I Tryz.f76 fun C Q s h => zeb.cps C N (s 0) h Q := fun {C} hC Q s h hR => e1 hR
theorem zeb.imp : zeb.Imp (AC P) N := fun a h Q hR => eF mixed (fn := Tryz.f76) (fun hC => zeb.L hC (dn Q) (zbf [a]) h hR)
def zp.I : Bx := ⟨[3, 7, 9, 12, 14], [15, 19, 78, 79, 84, 98, 104, 124, 136, 137, 140, 141, 144, 148, 168, 180, 183, 186, 190, 194, 197], 213, [(11, pz [] 7), (21, pz [(3, [1])] 8), (22, pz [] 11), (30, pz [] 11), (40, pz [] 11)]⟩
theorem zp.L : LkT P zp.I Tryz.f77 fun C Q s h => zp.cps C N (s 0) (s 1) h Q := fun {C} hC Q s h hR => eT hC (fun s h => zp.k14 C N Q (s 0) (s 216) h) hR (fun s h hR => eT hC (fun s h => zp.k13 C N Q (s 0) (s 5) (s 216) h) hR (fun s h hR => eT hC (fun s h => B.pv (V.bin .eql (s 6) (.str [42, 100, 97, 121])) fun e => B.cond e (zp.k1 C N Q (s 0) (s 5) h) (zp.k12 C N Q (s 0) (s 5) (s 6) (s 216) h)) hR (fun s h hR => eS hC (fun s h => B.nilCheck (s 5) fun a => B.pv (V.fieldAddr 2 a) fun b => B.ld h b fun c => B.pv (V.un .not c) fun d => Q d h) (eK (eT hC (fun s h => B.cond (s 22) (zp.k1 C N Q (s 0) (s 5) h) (zp.k12 C N Q (s 0) (s 5) (s 6) (s 216) h)) hR (fun s h hR => eC 22 hR (fun hR => e1 hR) (fun hR => eT hC (fun s h => B.cond (s 30) (zp.k2 C N Q (s 0) (s 5) h) (B.pv (V.bin .eql (s 6) (.str [42, 108, 105, 110, 101])) fun f => B.cond f (zp.k3 C N Q (s 0) (s 5) h) (zp.k11 C N Q (s 0) (s 5) (s 6) (s 216) h))) hR (fun s h hR => eC 30 hR (fun hR => e1 hR) (fun hR => eT hC (fun s h => B.cond (s 38) (zp.k3 C N Q (s 0) (s 5) h) (zp.k11 C N Q (s 0) (s 5) (s 6) (s 216) h)) hR (fun s h hR => eC 38 hR (fun hR => e1 hR) (fun hR => eT hC (fun s h => B.cond (s 46) (zp.k9 C N Q (s 0) (s 5) (s 6) h) (zp.k10 C N Q (s 0) (s 5) (s 6) (s 216) h)) hR (fun s h hR => eC 46 hR (fun hR => eT hC (fun s h => B.call C (N 71) [(s 5), (.int .i64 1)] h fun g h => ze (zp.l8 C N Q (s 0) (s 5)) [g, (s 220)] h) hR (fun s h hR => eS hC (fun s h => B.call C (N 71) [(s 5), (.int .i64 1)] h fun i h => ze (zp.l6 C N Q (s 0) (s 5)) [i, (s 220)] h) (eT hC (fun s h => ze (zp.l8 C N Q (s 0) (s 5)) [(s 8), (s 220)] h) hR (fun s h hR => eK (eL hC [0, 5] [8, 220] (on2 (zp.l8 C N Q)) hR (fun Y2 s h hR => e1 hR)))) (fun s h hR => eS hC (fun s h => zp.k4 C N Q (s 0) (s 5) (s 220) h) (eT hC (fun s h => ze (zp.l6 C N Q (s 0) (s 5)) [(s 10), (s 220)] h) hR (fun s h hR => eK (eL hC [0, 5] [10, 220] (on2 (zp.l6 C N Q)) hR (fun Y1 s h hR => e1 hR)))) (fun s h hR => e1 hR)))) (fun hR => e1 hR)))))))))) (fun s h hR => e1 hR))))
theorem zp.imp : zp.Imp (AC P) N := fun a b h Q hR => eF mixed (fn := Tryz.f77) (fun hC => zp.L hC (dn Q) (zbf [a, b]) h hR)
def zb5.I : Bx := ⟨[], [], 27, [(6, pz [] 10)]⟩
theorem zb5.L : LkT P zb5.I Tryz.f78 fun C Q s h => zb5.cps C N (s 0) (s 1) h Q := fun {C} hC Q s h hR => eT hC (fun s h => zb5.k3 C N Q (s 0) (s 1) h) hR (fun s h hR => eT hC (fun s h => ze (zb5.l2 C N Q (s 0) (s 1)) [(.int .i64 0)] h) hR (fun s h hR => eS hC (fun s h => Q (.bool true) h) (eT hC (fun s h => ze (zb5.l2 C N Q (s 0) (s 1)) [(s 5)] h) hR (fun s h hR => eK (eL hC [0, 1] [5] (on2 (zb5.l2 C N Q)) hR (fun Y1 s h hR => e1 hR)))) (fun s h hR => e1 hR)))
theorem zb5.imp : zb5.Imp (AC P) N := fun a b h Q hR => eF mixed (fn := Tryz.f78) (fun hC => zb5.L hC (dn Q) (zbf [a, b]) h hR)
def zdc.I : Bx := ⟨[], [], 26, [(6, pz [] 9)]⟩
theorem zdc.L : LkT P zdc.I Tryz.f79 fun C Q s h => zdc.cps C N (s 0) (s 1) h Q := fun {C} hC Q s h hR => eT hC (fun s h => zdc.k3 C N Q (s 0) (s 1) h) hR (fun s h hR => eT hC (fun s h => ze (zmm.l4 6 [.i .i64, .s, .i .i64, .i .i64, .i .i64, .b] Q (s 0) (s 1)) [(.int .i64 0)] h) hR (fun s h hR => eS hC (fun s h => Q (.bool true) h) (eT hC (fun s h => ze (zmm.l4 6 [.i .i64, .s, .i .i64, .i .i64, .i .i64, .b] Q (s 0) (s 1)) [(s 5)] h) hR (fun s h hR => eK (eL hC [0, 1] [5] (on2 (zmm.l4 6 [.i .i64, .s, .i .i64, .i .i64, .i .i64, .b] Q)) hR (fun Y1 s h hR => e1 hR)))) (fun s h hR => e1 hR)))
theorem zdc.imp : zdc.Imp (AC P) N := fun a b h Q hR => eF mixed (fn := Tryz.f79) (fun hC => zdc.L hC (dn Q) (zbf [a, b]) h hR)
def zcw.I : Bx := ⟨[], [], 26, [(6, pz [] 9)]⟩
theorem zcw.L : LkT P zcw.I Tryz.f80 fun C Q s h => zcw.cps C N (s 0) (s 1) h Q := fun {C} hC Q s h hR => eT hC (fun s h => zcw.k3 C N Q (s 0) (s 1) h) hR (fun s h hR => eT hC (fun s h => ze (zmm.l4 8 [.i .i64, .s, .i .i64, .i .i64, .i .i64, .i .u8, .i .i64, .s] Q (s 0) (s 1)) [(.int .i64 0)] h) hR (fun s h hR => eS hC (fun s h => Q (.bool true) h) (eT hC (fun s h => ze (zmm.l4 8 [.i .i64, .s, .i .i64, .i .i64, .i .i64, .i .u8, .i .i64, .s] Q (s 0) (s 1)) [(s 5)] h) hR (fun s h hR => eK (eL hC [0, 1] [5] (on2 (zmm.l4 8 [.i .i64, .s, .i .i64, .i .i64, .i .i64, .i .u8, .i .i64, .s] Q)) hR (fun Y1 s h hR => e1 hR)))) (fun s h hR => e1 hR)))
theorem zcw.imp : zcw.Imp (AC P) N := fun a b h Q hR => eF mixed (fn := Tryz.f80) (fun hC => zcw.L hC (dn Q) (zbf [a, b]) h hR)
def zbs.I : Bx := ⟨[], [], 27, []⟩
theorem zbs.L : LkT P zbs.I Tryz.f81 fun C Q s h => zbs.cps C N (s 0) (s 1) h Q := fun {C} hC Q s h hR => eT hC (fun s h => ze (zbs.l2 C N Q (s 0) (s 1)) [(.int .i64 0)] h) hR (fun s h hR => eT hC (fun s h => ze (zbs.l2 C N Q (s 0) (s 1)) [(s 4)] h) hR (fun s h hR => eK (eL hC [0, 1] [4] (on2 (zbs.l2 C N Q)) hR (fun Y1 s h hR => e1 hR))))
theorem zbs.imp : zbs.Imp (AC P) N := fun a b h Q hR => eF mixed (fn := Tryz.f81) (fun hC => zbs.L hC (dn Q) (zbf [a, b]) h hR)
def zcb.I : Bx := ⟨[1, 6, 9], [13, 16, 21, 25, 30, 35, 40, 44, 52, 56, 61, 62, 66, 67, 71, 74, 81, 85, 93, 97, 101], 106, []⟩
theorem zcb.L : LkT P zcb.I Tryz.f83 fun C Q s h => zcb.cps C N (s 0) h Q := fun {C} hC Q s h hR => eT hC (fun s h => zcb.k10 C N Q (s 107) h) hR (fun s h hR => eT hC (fun s h => B.al (s 107) (B.pv (V.zg 0 (s 107)) fun c => B.call C (N 50) [.nils, c, (.int .i64 2)] h fun d h => zcb.k9 C N Q d (s 107) h)) hR (fun s h hR => eT hC (fun s h => zcb.k9 C N Q (s 4) (s 107) h) hR (fun s h hR => eT hC (fun s h => B.al (s 107) (B.pv (V.zg 1 (s 107)) fun e => B.call C (N 50) [(s 4), e, (.int .i64 8)] h fun f h => zcb.k8 C N Q f (s 107) h)) hR (fun s h hR => eT hC (fun s h => zcb.k8 C N Q (s 4) (s 107) h) hR (fun s h hR => eT hC (fun s h => B.al (s 107) (B.pv (V.zg 3 (s 107)) fun g => B.call C (N 51) [g] h fun i h => B.appW h 1 1 (s 4) i fun j h => zcb.k7 C N Q j (s 107) h)) hR (fun s h hR => eT hC (fun s h => zcb.k7 C N Q (s 4) (s 107) h) hR (fun s h hR => eT hC (fun s h => zcb.k6 C N Q (s 4) (s 107) h) hR (fun s h hR => eT hC (fun s h => B.al (s 107) (B.pv (V.zg 5 (s 107)) fun a => B.pv (V.zj a) fun k => ze (zcb.l5 C N Q a k (s 107)) [(s 4), (.int .i64 0)] h)) hR (fun s h hR => eS hC (fun s h => zcb.k3 C N Q (s 4) (s 107) h) (eT hC (fun s h => ze (zcb.l5 C N Q (s 45) (s 46) (s 107)) [(s 4), (s 47)] h) hR (fun s h hR => eK (eL hC [45, 46, 107] [4, 47] (on3 (zcb.l5 C N Q)) hR (fun Y2 s h hR => e1 hR)))) (fun s h hR => eT hC (fun s h => B.al (s 107) (B.pv (V.zg 6 (s 107)) fun b => B.pv (V.zj b) fun l => ze (zcb.l2 C N Q b l) [(s 4), (.int .i64 0)] h)) hR (fun s h hR => eS hC (fun s h => Q (.tup [(s 4), (.int .i64 0)]) h) (eT hC (fun s h => ze (zcb.l2 C N Q (s 86) (s 87)) [(s 4), (s 88)] h) hR (fun s h hR => eK (eL hC [86, 87] [4, 88] (on2 (zcb.l2 C N Q)) hR (fun Y1 s h hR => e1 hR)))) (fun s h hR => e1 hR))))))))))))
theorem zcb.imp : zcb.Imp (AC P) N := fun a h Q hR => eF mixed (fn := Tryz.f83) (fun hC => zcb.L hC (dn Q) (zbf [a]) h hR)
def zbp.I : Bx := ⟨[], [], 9, []⟩
theorem zbp.L : LkT P zbp.I Tryz.f84 fun C Q s h => zbp.cps C N (s 0) (s 1) h Q := fun {C} hC Q s h hR => e1 hR
theorem zbp.imp : zbp.Imp (AC P) N := fun a b h Q hR => eF mixed (fn := Tryz.f84) (fun hC => zbp.L hC (dn Q) (zbf [a, b]) h hR)
def zei.I : Bx := ⟨[], [], 8, []⟩
theorem zei.L : LkT P zei.I Tryz.f85 fun C Q s h => zei.cps C N (s 0) h Q := fun {C} hC Q s h hR => e1 hR
theorem zei.imp : zei.Imp (AC P) N := fun a h Q hR => eF mixed (fn := Tryz.f85) (fun hC => zei.L hC (dn Q) (zbf [a]) h hR)
def zcl.I : Bx := ⟨[], [], 18, []⟩
theorem zcl.L : LkT P zcl.I Tryz.f86 fun C Q s h => zcl.cps C N (s 0) (s 1) h Q := fun {C} hC Q s h hR => e1 hR
theorem zcl.imp : zcl.Imp (AC P) N := fun a b h Q hR => eF mixed (fn := Tryz.f86) (fun hC => zcl.L hC (dn Q) (zbf [a, b]) h hR)
def zds.I : Bx := ⟨[6], [13, 18, 22, 25, 29, 34, 39], 55, [(12, pz [(5, [4])] 8)]⟩
theorem zds.L : LkT P zds.I Tryz.f87 fun C Q s h => zds.cps C N (s 0) h Q := fun {C} hC Q s h hR => eT hC (fun s h => B.pv (A.bld [(0, none, (s 0))] [.nils, .int .i64 0, .bool false]) fun a => B.newO h (A.zjp 3 a) fun b h => zds.k3 C N Q (s 2) (.ptr b 0 0) h) hR (fun s h hR => eT hC (fun s h => zds.k3 C N Q (s 2) (s 5) h) hR (fun s h hR => eT hC (fun s h => zds.k2 C N Q (s 2) (s 5) (s 61) h) hR (fun s h hR => eT hC (fun s h => zds.k1 C N Q (s 2) (s 5) (s 61) h) hR (fun s h hR => e1 hR))))
theorem zds.imp : zds.Imp (AC P) N := fun a h Q hR => eF mixed (fn := Tryz.f87) (fun hC => zds.L hC (dn Q) (zbf [a]) h hR)
def zce.I : Bx := ⟨[], [], 18, []⟩
theorem zce.L : LkT P zce.I Tryz.f93 fun C Q s h => zce.cps C N (s 0) h Q := fun {C} hC Q s h hR => eT hC (fun s h => ze (zce.l2 C N Q (s 0)) [.nils, (.int .i64 0)] h) hR (fun s h hR => eT hC (fun s h => ze (zce.l2 C N Q (s 0)) [(s 3), (.int .i64 0)] h) hR (fun s h hR => eS hC (fun s h => Q (s 3) h) (eT hC (fun s h => ze (zce.l2 C N Q (s 0)) [(s 3), (s 4)] h) hR (fun s h hR => eK (eL hC [0] [3, 4] (on1 (zce.l2 C N Q)) hR (fun Y1 s h hR => e1 hR)))) (fun s h hR => e1 hR)))
theorem zce.imp : zce.Imp (AC P) N := fun a h Q hR => eF mixed (fn := Tryz.f93) (fun hC => zce.L hC (dn Q) (zbf [a]) h hR)
def zdl.I : Bx := ⟨[4], [], 9, []⟩
theorem zdl.L : LkT P zdl.I Tryz.f99 fun C Q s h => zdl.cps C N (s 0) (s 1) h Q := fun {C} hC Q s h hR => e1 hR
theorem zdl.imp : zdl.Imp (AC P) N := fun a b h Q hR => eF mixed (fn := Tryz.f99) (fun hC => zdl.L hC (dn Q) (zbf [a, b]) h hR)
def zea.I : Bx := ⟨[4], [], 9, []⟩
theorem zea.L : LkT P zea.I Tryz.f100 fun C Q s h => zea.cps C N (s 0) (s 1) h Q := fun {C} hC Q s h hR => e1 hR
theorem zea.imp : zea.Imp (AC P) N := fun a b h Q hR => eF mixed (fn := Tryz.f100) (fun hC => zea.L hC (dn Q) (zbf [a, b]) h hR)
def zdk.I : Bx := ⟨[4], [], 9, []⟩
theorem zdk.L : LkT P zdk.I Tryz.f101 fun C Q s h => zdk.cps C N (s 0) (s 1) h Q := fun {C} hC Q s h hR => e1 hR
theorem zdk.imp : zdk.Imp (AC P) N := fun a b h Q hR => eF mixed (fn := Tryz.f101) (fun hC => zdk.L hC (dn Q) (zbf [a, b]) h hR)
def zdf.I : Bx := ⟨[1, 5], [6, 9, 14, 18, 22, 26, 33, 37, 42, 47], 54, []⟩
theorem zdf.L : LkT P zdf.I Tryz.f102 fun C Q s h => zdf.cps C N (s 0) h Q := fun {C} hC Q s h hR => eT hC (fun s h => zdf.k5 C N Q (s 55) h) hR (fun s h hR => eT hC (fun s h => zdf.k4 C N Q (s 55) h) hR (fun s h hR => eT hC (fun s h => B.al (s 55) (B.pv (V.zg 2 (s 55)) fun a => B.pv (V.zj a) fun b => ze (zdf.l3 C N Q a b (s 55)) [.nils, (.int .i64 0)] h)) hR (fun s h hR => eT hC (fun s h => B.al (s 55) (B.pv (V.zg 2 (s 55)) fun a => B.pv (V.zj a) fun b => ze (zdf.l3 C N Q a b (s 55)) [(s 3), (.int .i64 0)] h)) hR (fun s h hR => eS hC (fun s h => zdf.k1 C N Q (s 3) (s 55) h) (eT hC (fun s h => ze (zdf.l3 C N Q (s 27) (s 28) (s 55)) [(s 3), (s 29)] h) hR (fun s h hR => eK (eL hC [27, 28, 55] [3, 29] (on3 (zdf.l3 C N Q)) hR (fun Y1 s h hR => e1 hR)))) (fun s h hR => e1 hR)))))
theorem zdf.imp : zdf.Imp (AC P) N := fun a h Q hR => eF mixed (fn := Tryz.f102) (fun hC => zdf.L hC (dn Q) (zbf [a]) h hR)
def ze5.I : Bx := ⟨[1], [3, 7, 12, 17, 18, 20, 21, 26, 31], 35, []⟩
theorem ze5.L : LkT P ze5.I Tryz.f103 fun C Q s h => ze5.cps C N (s 0) h Q := fun {C} hC Q s h hR => e1 hR
theorem ze5.imp : ze5.Imp (AC P) N := fun a h Q hR => eF mixed (fn := Tryz.f103) (fun hC => ze5.L hC (dn Q) (zbf [a]) h hR)
def zes.I : Bx := ⟨[1], [3, 7, 13, 18, 23, 28, 33, 38, 42, 46, 50, 53, 57, 61, 65, 70, 75], 79, []⟩
theorem zes.L : LkT P zes.I Tryz.f104 fun C Q s h => zes.cps C N (s 0) h Q := fun {C} hC Q s h hR => e1 hR
theorem zes.imp : zes.Imp (AC P) N := fun a h Q hR => eF mixed (fn := Tryz.f104) (fun hC => zes.L hC (dn Q) (zbf [a]) h hR)
def zh.I : Bx := ⟨[], [], 36, []⟩
theorem zh.L : LkT P zh.I Tryz.f105 fun C Q s h => zh.cps C N (s 0) h Q := fun {C} hC Q s h hR => eT hC (fun s h => B.pv (V.zj (s 0)) fun a => ze (zh.l4 C N Q (s 0) (s 0) a) [(.int .i64 0), (.int .i64 0)] h) hR (fun s h hR => eT hC (fun s h => B.pv (V.zj (s 0)) fun a => ze (zh.l4 C N Q (s 0) (s 0) a) [(s 3), (.int .i64 0)] h) hR (fun s h hR => eS hC (fun s h => B.call C (N 444) [.nils, (s 3)] h fun c h => B.pv (V.zj (s 0)) fun b => ze (zh.l2 C N Q (s 0) b) [c, (.int .i64 0)] h) (eT hC (fun s h => ze (zh.l4 C N Q (s 0) (s 9) (s 10)) [(s 3), (s 11)] h) hR (fun s h hR => eK (eL hC [0, 9, 10] [3, 11] (on3 (zh.l4 C N Q)) hR (fun Y2 s h hR => e1 hR)))) (fun s h hR => eT hC (fun s h => B.pv (V.zj (s 0)) fun b => ze (zh.l2 C N Q (s 0) b) [(s 6), (.int .i64 0)] h) hR (fun s h hR => eS hC (fun s h => Q (s 6) h) (eT hC (fun s h => ze (zh.l2 C N Q (s 25) (s 26)) [(s 6), (s 27)] h) hR (fun s h hR => eK (eL hC [25, 26] [6, 27] (on2 (zh.l2 C N Q)) hR (fun Y1 s h hR => e1 hR)))) (fun s h hR => e1 hR)))))
theorem zh.imp : zh.Imp (AC P) N := fun a h Q hR => eF mixed (fn := Tryz.f105) (fun hC => zh.L hC (dn Q) (zbf [a]) h hR)
def zcg.I : Bx := ⟨[], [], 40, []⟩
theorem zcg.L : LkT P zcg.I Tryz.f106 fun C Q s h => zcg.cps C N (s 0) h Q := fun {C} hC Q s h hR => eT hC (fun s h => B.zhw h (s 0) fun a h => ze (zcg.l3 C N Q (s 0) a) [] h) hR (fun s h hR => eS hC (fun s h => zcg.k1 C N Q (s 0) h) (eT hC (fun s h => ze (zcg.l3 C N Q (s 0) (s 6)) [] h) hR (fun s h hR => eK (eL hC [0, 6] [] (on2 (zcg.l3 C N Q)) hR (fun Y1 s h hR => e1 hR)))) (fun s h hR => e1 hR))
theorem zcg.imp : zcg.Imp (AC P) N := fun a h Q hR => eF mixed (fn := Tryz.f106) (fun hC => zcg.L hC (dn Q) (zbf [a]) h hR)
def zgj.I : Bx := ⟨[], [], 9, []⟩
theorem zgj.L : LkT P zgj.I Tryz.f107 fun C Q s h => zgj.cps C N (s 0) (s 1) h Q := fun {C} hC Q s h hR => e1 hR
theorem zgj.imp : zgj.Imp (AC P) N := fun a b h Q hR => eF mixed (fn := Tryz.f107) (fun hC => zgj.L hC (dn Q) (zbf [a, b]) h hR)
def zdd.I : Bx := ⟨[2, 3], [5, 7, 11, 13, 18, 20, 25, 27], 31, []⟩
theorem zdd.L : LkT P zdd.I Tryz.f109 fun C Q s h => zdd.cps C N (s 0) (s 1) h Q := fun {C} hC Q s h hR => e1 hR
theorem zdd.imp : zdd.Imp (AC P) N := fun a b h Q hR => eF mixed (fn := Tryz.f109) (fun hC => zdd.L hC (dn Q) (zbf [a, b]) h hR)
def zer.I : Bx := ⟨[1], [3, 8, 10, 16, 20, 24, 28, 32, 34], 39, []⟩
theorem zer.L : LkT P zer.I Tryz.f111 fun C Q s h => zer.cps C N (s 0) h Q := fun {C} hC Q s h hR => e1 hR
theorem zer.imp : zer.Imp (AC P) N := fun a h Q hR => eF mixed (fn := Tryz.f111) (fun hC => zer.L hC (dn Q) (zbf [a]) h hR)
def zd8.I : Bx := ⟨[1], [3, 7, 12, 13, 18, 19, 21, 22, 27, 28, 33, 38], 42, []⟩
theorem zd8.L : LkT P zd8.I Tryz.f112 fun C Q s h => zd8.cps C N (s 0) h Q := fun {C} hC Q s h hR => e1 hR
theorem zd8.imp : zd8.Imp (AC P) N := fun a h Q hR => eF mixed (fn := Tryz.f112) (fun hC => zd8.L hC (dn Q) (zbf [a]) h hR)
def zd7.I : Bx := ⟨[1], [5, 9, 15, 20, 25, 30, 35, 40, 44, 48, 52, 56, 61, 65], 79, []⟩
theorem zd7.L : LkT P zd7.I Tryz.f113 fun C Q s h => zd7.cps C N (s 0) h Q := fun {C} hC Q s h hR => e1 hR
theorem zd7.imp : zd7.Imp (AC P) N := fun a h Q hR => eF mixed (fn := Tryz.f113) (fun hC => zd7.L hC (dn Q) (zbf [a]) h hR)
def zey.I : Bx := ⟨[], [], 16, []⟩
theorem zey.L : LkT P zey.I Tryz.f114 fun C Q s h => zey.cps C N (s 0) h Q := fun {C} hC Q s h hR => e1 hR
theorem zey.imp : zey.Imp (AC P) N := fun a h Q hR => eF mixed (fn := Tryz.f114) (fun hC => zey.L hC (dn Q) (zbf [a]) h hR)
def zfk.I : Bx := ⟨[], [], 200, [(7, pz [(7, [3])] 11), (24, pz [(9, [3, 6]), (31, [25, 28])] 37), (41, pz [(9, [3, 6]), (23, [17, 20])] 28)]⟩
def zf6.I : Bx := ⟨[], [], 193, [(7, pz [(7, [3])] 10), (24, pz [(9, [3, 6]), (30, [24, 27])] 35), (41, pz [(9, [3, 6]), (22, [16, 19])] 26)]⟩
def zfr.I : Bx := ⟨[], [], 193, [(7, pz [(7, [3])] 10), (24, pz [(9, [3, 6]), (30, [24, 27])] 35), (41, pz [(9, [3, 6]), (22, [16, 19])] 26)]⟩
def zeu.I : Bx := ⟨[], [], 193, [(7, pz [(7, [3])] 10), (24, pz [(9, [3, 6]), (30, [24, 27])] 35), (41, pz [(9, [3, 6]), (22, [16, 19])] 26)]⟩
theorem zeu.L : LkT P zeu.I Tryz.f119 fun C Q s h => zeu.cps C N (s 0) h Q := fun {C} hC Q s h hR => eT hC (fun s h => ze (zr.l103 (opsS 16 (.str []) (N 106)) C Q (s 0)) [(.int .i64 0)] h) hR (fun s h hR => eS hC (fun s h => B.pv (V.zj (s 0)) fun b => 0 < 1 /\ B.mks h 24 (some [.nils]) b b fun f h => ze (zr.l82 (opsS 16 (.str []) (N 106)) C Q (s 0) f) [(.int .i64 0)] h) (eT hC (fun s h => ze (zr.l103 (opsS 16 (.str []) (N 106)) C Q (s 0)) [(s 3)] h) hR (fun s h hR => eK (eL hC [0] [3] (on1 (zr.l103 (opsS 16 (.str []) (N 106)) C Q)) hR (fun Y9 s h hR => eT hC (fun s h => ze (zr.l93 (opsS 16 (.str []) (N 106)) C Q Y9 (s 0) (s 3)) [(.int .i64 0)] h) hR (fun s h hR => eS hC (fun s h => B.pv (V.bin .add (s 3) (.int .i64 1)) fun g => Y9 [g] h) (eK (eT hC (fun s h => ze (zr.l93 (opsS 16 (.str []) (N 106)) C Q Y9 (s 0) (s 3)) [(s 4)] h) hR (fun s h hR => eK (eL hC [0, 3] [4] (on2 (zr.l93 (opsS 16 (.str []) (N 106)) C Q Y9)) hR (fun Y10 s h hR => e1 hR))))) (fun s h hR => e1 hR)))))) (fun s h hR => eT hC (fun s h => ze (zr.l82 (opsS 16 (.str []) (N 106)) C Q (s 0) (s 5)) [(.int .i64 0)] h) hR (fun s h hR => eS hC (fun s h => ze (zr.l59 (opsS 16 (.str []) (N 106)) C Q (s 0) (s 5)) [(.int .i64 0)] h) (eT hC (fun s h => ze (zr.l82 (opsS 16 (.str []) (N 106)) C Q (s 0) (s 5)) [(s 6)] h) hR (fun s h hR => eK (eL hC [0, 5] [6] (on2 (zr.l82 (opsS 16 (.str []) (N 106)) C Q)) hR (fun Y7 s h hR => eT hC (fun s h => B.pv (V.idxS 1 (s 0) (s 6)) fun i => B.ld h i fun j => ze (zr.l69 (opsS 16 (.str []) (N 106)) C Q Y7 (s 0) (s 5) (s 6)) [j, (.int .i64 0)] h) hR (fun s h hR => eS hC (fun s h => B.pv (V.bin .add (s 6) (.int .i64 1)) fun a => Y7 [a] h) (eK (eT hC (fun s h => ze (zr.l69 (opsS 16 (.str []) (N 106)) C Q Y7 (s 0) (s 5) (s 6)) [(s 7), (.int .i64 0)] h) hR (fun s h hR => eS hC (fun s h => B.pv (V.idxS 1 (s 5) (s 6)) fun k => B.st h k (s 7) fun h => B.pv (V.bin .add (s 6) (.int .i64 1)) fun a => Y7 [a] h) (eT hC (fun s h => ze (zr.l69 (opsS 16 (.str []) (N 106)) C Q Y7 (s 0) (s 5) (s 6)) [(s 7), (s 8)] h) hR (fun s h hR => eK (eL hC [0, 5, 6] [7, 8] (on3 (zr.l69 (opsS 16 (.str []) (N 106)) C Q Y7)) hR (fun Y8 s h hR => e1 hR)))) (fun s h hR => e1 hR)))) (fun s h hR => e1 hR)))))) (fun s h hR => eS hC (fun s h => ze (zr.l40 (opsS 16 (.str []) (N 106)) C Q (s 0) (s 5)) [(.int .i64 0)] h) (eT hC (fun s h => ze (zr.l59 (opsS 16 (.str []) (N 106)) C Q (s 0) (s 5)) [(s 9)] h) hR (fun s h hR => eK (eL hC [0, 5] [9] (on2 (zr.l59 (opsS 16 (.str []) (N 106)) C Q)) hR (fun Y5 s h hR => eT hC (fun s h => ze (zr.l49 (opsS 16 (.str []) (N 106)) C Q Y5 (s 0) (s 5) (s 9)) [(.int .i64 0)] h) hR (fun s h hR => eS hC (fun s h => B.pv (V.bin .add (s 9) (.int .i64 1)) fun l => Y5 [l] h) (eK (eT hC (fun s h => ze (zr.l49 (opsS 16 (.str []) (N 106)) C Q Y5 (s 0) (s 5) (s 9)) [(s 10)] h) hR (fun s h hR => eK (eL hC [0, 5, 9] [10] (on3 (zr.l49 (opsS 16 (.str []) (N 106)) C Q Y5)) hR (fun Y6 s h hR => e1 hR))))) (fun s h hR => e1 hR)))))) (fun s h hR => eS hC (fun s h => ze (zr.l15 (opsS 16 (.str []) (N 106)) C Q (s 0) (s 5)) [(.int .i64 0)] h) (eT hC (fun s h => ze (zr.l40 (opsS 16 (.str []) (N 106)) C Q (s 0) (s 5)) [(s 11)] h) hR (fun s h hR => eK (eL hC [0, 5] [11] (on2 (zr.l40 (opsS 16 (.str []) (N 106)) C Q)) hR (fun Y3 s h hR => eT hC (fun s h => 0 < 1 /\ B.mks h 16 (some [.str []]) (.int .i64 64) (.int .i64 64) fun c h => ze (zr.l26 (opsS 16 (.str []) (N 106)) C Q Y3 (s 0) (s 5) (s 11) c) [(.int .i64 0)] h) hR (fun s h hR => eS hC (fun s h => B.pv (V.bin .add (s 11) (.int .i64 1)) fun d => Y3 [d] h) (eK (eT hC (fun s h => ze (zr.l26 (opsS 16 (.str []) (N 106)) C Q Y3 (s 0) (s 5) (s 11) (s 12)) [(.int .i64 0)] h) hR (fun s h hR => eS hC (fun s h => zr.k22 (opsS 16 (.str []) (N 106)) C Q Y3 (s 0) (s 5) (s 11) (s 12) h) (eT hC (fun s h => ze (zr.l26 (opsS 16 (.str []) (N 106)) C Q Y3 (s 0) (s 5) (s 11) (s 12)) [(s 13)] h) hR (fun s h hR => eK (eL hC [0, 5, 11, 12] [13] (on4 (zr.l26 (opsS 16 (.str []) (N 106)) C Q Y3)) hR (fun Y4 s h hR => e1 hR)))) (fun s h hR => e1 hR)))) (fun s h hR => e1 hR)))))) (fun s h hR => eS hC (fun s h => Q (.bool true) h) (eT hC (fun s h => ze (zr.l15 (opsS 16 (.str []) (N 106)) C Q (s 0) (s 5)) [(s 14)] h) hR (fun s h hR => eK (eL hC [0, 5] [14] (on2 (zr.l15 (opsS 16 (.str []) (N 106)) C Q)) hR (fun Y1 s h hR => eT hC (fun s h => ze (zr.l5 (opsS 16 (.str []) (N 106)) C Q Y1 (s 0) (s 5) (s 14)) [(.int .i64 0)] h) hR (fun s h hR => eS hC (fun s h => B.pv (V.bin .add (s 14) (.int .i64 1)) fun e => Y1 [e] h) (eK (eT hC (fun s h => ze (zr.l5 (opsS 16 (.str []) (N 106)) C Q Y1 (s 0) (s 5) (s 14)) [(s 15)] h) hR (fun s h hR => eK (eL hC [0, 5, 14] [15] (on3 (zr.l5 (opsS 16 (.str []) (N 106)) C Q Y1)) hR (fun Y2 s h hR => e1 hR))))) (fun s h hR => e1 hR)))))) (fun s h hR => e1 hR)))))))
theorem zeu.imp : zeu.Imp (AC P) N := fun a h Q hR => eF mixed (fn := Tryz.f119) (fun hC => zeu.L hC (dn Q) (zbf [a]) h hR)
def zft.I : Bx := ⟨[], [], 193, [(7, pz [(7, [3])] 10), (24, pz [(9, [3, 6]), (30, [24, 27])] 35), (41, pz [(9, [3, 6]), (22, [16, 19])] 26)]⟩
def ze0.I : Bx := ⟨[], [], 193, [(7, pz [(7, [3])] 10), (24, pz [(9, [3, 6]), (30, [24, 27])] 35), (41, pz [(9, [3, 6]), (22, [16, 19])] 26)]⟩
def zbb.I : Bx := ⟨[], [], 193, [(7, pz [(7, [3])] 10), (24, pz [(9, [3, 6]), (30, [24, 27])] 35), (41, pz [(9, [3, 6]), (22, [16, 19])] 26)]⟩
abbrev zbb.E : zfj := opsF 6 56 [.int .i64 0, .str [], .int .i64 0, .int .i64 0, .int .i64 0, .bool false] (N 77) [.i .i64, .s, .i .i64, .i .i64, .i .i64, .b]
theorem zbb.L : LkT P zbb.I Tryz.f122 fun C Q s h => zbb.cps C N (s 0) h Q := fun {C} hC Q s h hR => eT hC (fun s h => ze (zr.l103 zbb.E C Q (s 0)) [(.int .i64 0)] h) hR (fun s h hR => eS hC (fun s h => B.pv (V.zj (s 0)) fun b => 0 < 1 /\ B.mks h 24 (some [.nils]) b b fun f h => ze (zr.l82 zbb.E C Q (s 0) f) [(.int .i64 0)] h) (eT hC (fun s h => ze (zr.l103 zbb.E C Q (s 0)) [(s 3)] h) hR (fun s h hR => eK (eL hC [0] [3] (on1 (zr.l103 zbb.E C Q)) hR (fun Y9 s h hR => eT hC (fun s h => ze (zr.l93 zbb.E C Q Y9 (s 0) (s 3)) [(.int .i64 0)] h) hR (fun s h hR => eS hC (fun s h => B.pv (V.bin .add (s 3) (.int .i64 1)) fun g => Y9 [g] h) (eK (eT hC (fun s h => ze (zr.l93 zbb.E C Q Y9 (s 0) (s 3)) [(s 4)] h) hR (fun s h hR => eK (eL hC [0, 3] [4] (on2 (zr.l93 zbb.E C Q Y9)) hR (fun Y10 s h hR => e1 hR))))) (fun s h hR => e1 hR)))))) (fun s h hR => eT hC (fun s h => ze (zr.l82 zbb.E C Q (s 0) (s 5)) [(.int .i64 0)] h) hR (fun s h hR => eS hC (fun s h => ze (zr.l59 zbb.E C Q (s 0) (s 5)) [(.int .i64 0)] h) (eT hC (fun s h => ze (zr.l82 zbb.E C Q (s 0) (s 5)) [(s 6)] h) hR (fun s h hR => eK (eL hC [0, 5] [6] (on2 (zr.l82 zbb.E C Q)) hR (fun Y7 s h hR => eT hC (fun s h => B.pv (V.idxS 1 (s 0) (s 6)) fun i => B.ld h i fun j => ze (zr.l69 zbb.E C Q Y7 (s 0) (s 5) (s 6)) [j, (.int .i64 0)] h) hR (fun s h hR => eS hC (fun s h => B.pv (V.bin .add (s 6) (.int .i64 1)) fun a => Y7 [a] h) (eK (eT hC (fun s h => ze (zr.l69 zbb.E C Q Y7 (s 0) (s 5) (s 6)) [(s 7), (.int .i64 0)] h) hR (fun s h hR => eS hC (fun s h => B.pv (V.idxS 1 (s 5) (s 6)) fun k => B.st h k (s 7) fun h => B.pv (V.bin .add (s 6) (.int .i64 1)) fun a => Y7 [a] h) (eT hC (fun s h => ze (zr.l69 zbb.E C Q Y7 (s 0) (s 5) (s 6)) [(s 7), (s 8)] h) hR (fun s h hR => eK (eL hC [0, 5, 6] [7, 8] (on3 (zr.l69 zbb.E C Q Y7)) hR (fun Y8 s h hR => e1 hR)))) (fun s h hR => e1 hR)))) (fun s h hR => e1 hR)))))) (fun s h hR => eS hC (fun s h => ze (zr.l40 zbb.E C Q (s 0) (s 5)) [(.int .i64 0)] h) (eT hC (fun s h => ze (zr.l59 zbb.E C Q (s 0) (s 5)) [(s 9)] h) hR (fun s h hR => eK (eL hC [0, 5] [9] (on2 (zr.l59 zbb.E C Q)) hR (fun Y5 s h hR => eT hC (fun s h => ze (zr.l49 zbb.E C Q Y5 (s 0) (s 5) (s 9)) [(.int .i64 0)] h) hR (fun s h hR => eS hC (fun s h => B.pv (V.bin .add (s 9) (.int .i64 1)) fun l => Y5 [l] h) (eK (eT hC (fun s h => ze (zr.l49 zbb.E C Q Y5 (s 0) (s 5) (s 9)) [(s 10)] h) hR (fun s h hR => eK (eL hC [0, 5, 9] [10] (on3 (zr.l49 zbb.E C Q Y5)) hR (fun Y6 s h hR => e1 hR))))) (fun s h hR => e1 hR)))))) (fun s h hR => eS hC (fun s h => ze (zr.l15 zbb.E C Q (s 0) (s 5)) [(.int .i64 0)] h) (eT hC (fun s h => ze (zr.l40 zbb.E C Q (s 0) (s 5)) [(s 11)] h) hR (fun s h hR => eK (eL hC [0, 5] [11] (on2 (zr.l40 zbb.E C Q)) hR (fun Y3 s h hR => eT hC (fun s h => 0 < 6 /\ B.mks h 56 (some [.int .i64 0, .str [], .int .i64 0, .int .i64 0, .int .i64 0, .bool false]) (.int .i64 64) (.int .i64 64) fun c h => ze (zr.l26 zbb.E C Q Y3 (s 0) (s 5) (s 11) c) [(.int .i64 0)] h) hR (fun s h hR => eS hC (fun s h => B.pv (V.bin .add (s 11) (.int .i64 1)) fun d => Y3 [d] h) (eK (eT hC (fun s h => ze (zr.l26 zbb.E C Q Y3 (s 0) (s 5) (s 11) (s 12)) [(.int .i64 0)] h) hR (fun s h hR => eS hC (fun s h => zr.k22 zbb.E C Q Y3 (s 0) (s 5) (s 11) (s 12) h) (eT hC (fun s h => ze (zr.l26 zbb.E C Q Y3 (s 0) (s 5) (s 11) (s 12)) [(s 13)] h) hR (fun s h hR => eK (eL hC [0, 5, 11, 12] [13] (on4 (zr.l26 zbb.E C Q Y3)) hR (fun Y4 s h hR => e1 hR)))) (fun s h hR => e1 hR)))) (fun s h hR => e1 hR)))))) (fun s h hR => eS hC (fun s h => Q (.bool true) h) (eT hC (fun s h => ze (zr.l15 zbb.E C Q (s 0) (s 5)) [(s 14)] h) hR (fun s h hR => eK (eL hC [0, 5] [14] (on2 (zr.l15 zbb.E C Q)) hR (fun Y1 s h hR => eT hC (fun s h => ze (zr.l5 zbb.E C Q Y1 (s 0) (s 5) (s 14)) [(.int .i64 0)] h) hR (fun s h hR => eS hC (fun s h => B.pv (V.bin .add (s 14) (.int .i64 1)) fun e => Y1 [e] h) (eK (eT hC (fun s h => ze (zr.l5 zbb.E C Q Y1 (s 0) (s 5) (s 14)) [(s 15)] h) hR (fun s h hR => eK (eL hC [0, 5, 14] [15] (on3 (zr.l5 zbb.E C Q Y1)) hR (fun Y2 s h hR => e1 hR))))) (fun s h hR => e1 hR)))))) (fun s h hR => e1 hR)))))))
theorem zbb.imp : zbb.Imp (AC P) N := fun a h Q hR => eF mixed (fn := Tryz.f122) (fun hC => zbb.L hC (dn Q) (zbf [a]) h hR)
def zfl.I : Bx := ⟨[], [], 193, [(7, pz [(7, [3])] 10), (24, pz [(9, [3, 6]), (30, [24, 27])] 35), (41, pz [(9, [3, 6]), (22, [16, 19])] 26)]⟩
def zf4.I : Bx := ⟨[], [], 193, [(7, pz [(7, [3])] 10), (24, pz [(9, [3, 6]), (30, [24, 27])] 35), (41, pz [(9, [3, 6]), (22, [16, 19])] 26)]⟩
def zw.I : Bx := ⟨[], [], 193, [(7, pz [(7, [3])] 10), (24, pz [(9, [3, 6]), (30, [24, 27])] 35), (41, pz [(9, [3, 6]), (22, [16, 19])] 26)]⟩
abbrev zw.E : zfj := opsF 2 24 [.str [], .int .i64 0] (N 108) [.s, .i .i64]
theorem zw.L : LkT P zw.I Tryz.f125 fun C Q s h => zw.cps C N (s 0) h Q := fun {C} hC Q s h hR => eT hC (fun s h => ze (zr.l103 zw.E C Q (s 0)) [(.int .i64 0)] h) hR (fun s h hR => eS hC (fun s h => B.pv (V.zj (s 0)) fun b => 0 < 1 /\ B.mks h 24 (some [.nils]) b b fun f h => ze (zr.l82 zw.E C Q (s 0) f) [(.int .i64 0)] h) (eT hC (fun s h => ze (zr.l103 zw.E C Q (s 0)) [(s 3)] h) hR (fun s h hR => eK (eL hC [0] [3] (on1 (zr.l103 zw.E C Q)) hR (fun Y9 s h hR => eT hC (fun s h => ze (zr.l93 zw.E C Q Y9 (s 0) (s 3)) [(.int .i64 0)] h) hR (fun s h hR => eS hC (fun s h => B.pv (V.bin .add (s 3) (.int .i64 1)) fun g => Y9 [g] h) (eK (eT hC (fun s h => ze (zr.l93 zw.E C Q Y9 (s 0) (s 3)) [(s 4)] h) hR (fun s h hR => eK (eL hC [0, 3] [4] (on2 (zr.l93 zw.E C Q Y9)) hR (fun Y10 s h hR => e1 hR))))) (fun s h hR => e1 hR)))))) (fun s h hR => eT hC (fun s h => ze (zr.l82 zw.E C Q (s 0) (s 5)) [(.int .i64 0)] h) hR (fun s h hR => eS hC (fun s h => ze (zr.l59 zw.E C Q (s 0) (s 5)) [(.int .i64 0)] h) (eT hC (fun s h => ze (zr.l82 zw.E C Q (s 0) (s 5)) [(s 6)] h) hR (fun s h hR => eK (eL hC [0, 5] [6] (on2 (zr.l82 zw.E C Q)) hR (fun Y7 s h hR => eT hC (fun s h => B.pv (V.idxS 1 (s 0) (s 6)) fun i => B.ld h i fun j => ze (zr.l69 zw.E C Q Y7 (s 0) (s 5) (s 6)) [j, (.int .i64 0)] h) hR (fun s h hR => eS hC (fun s h => B.pv (V.bin .add (s 6) (.int .i64 1)) fun a => Y7 [a] h) (eK (eT hC (fun s h => ze (zr.l69 zw.E C Q Y7 (s 0) (s 5) (s 6)) [(s 7), (.int .i64 0)] h) hR (fun s h hR => eS hC (fun s h => B.pv (V.idxS 1 (s 5) (s 6)) fun k => B.st h k (s 7) fun h => B.pv (V.bin .add (s 6) (.int .i64 1)) fun a => Y7 [a] h) (eT hC (fun s h => ze (zr.l69 zw.E C Q Y7 (s 0) (s 5) (s 6)) [(s 7), (s 8)] h) hR (fun s h hR => eK (eL hC [0, 5, 6] [7, 8] (on3 (zr.l69 zw.E C Q Y7)) hR (fun Y8 s h hR => e1 hR)))) (fun s h hR => e1 hR)))) (fun s h hR => e1 hR)))))) (fun s h hR => eS hC (fun s h => ze (zr.l40 zw.E C Q (s 0) (s 5)) [(.int .i64 0)] h) (eT hC (fun s h => ze (zr.l59 zw.E C Q (s 0) (s 5)) [(s 9)] h) hR (fun s h hR => eK (eL hC [0, 5] [9] (on2 (zr.l59 zw.E C Q)) hR (fun Y5 s h hR => eT hC (fun s h => ze (zr.l49 zw.E C Q Y5 (s 0) (s 5) (s 9)) [(.int .i64 0)] h) hR (fun s h hR => eS hC (fun s h => B.pv (V.bin .add (s 9) (.int .i64 1)) fun l => Y5 [l] h) (eK (eT hC (fun s h => ze (zr.l49 zw.E C Q Y5 (s 0) (s 5) (s 9)) [(s 10)] h) hR (fun s h hR => eK (eL hC [0, 5, 9] [10] (on3 (zr.l49 zw.E C Q Y5)) hR (fun Y6 s h hR => e1 hR))))) (fun s h hR => e1 hR)))))) (fun s h hR => eS hC (fun s h => ze (zr.l15 zw.E C Q (s 0) (s 5)) [(.int .i64 0)] h) (eT hC (fun s h => ze (zr.l40 zw.E C Q (s 0) (s 5)) [(s 11)] h) hR (fun s h hR => eK (eL hC [0, 5] [11] (on2 (zr.l40 zw.E C Q)) hR (fun Y3 s h hR => eT hC (fun s h => 0 < 2 /\ B.mks h 24 (some [.str [], .int .i64 0]) (.int .i64 64) (.int .i64 64) fun c h => ze (zr.l26 zw.E C Q Y3 (s 0) (s 5) (s 11) c) [(.int .i64 0)] h) hR (fun s h hR => eS hC (fun s h => B.pv (V.bin .add (s 11) (.int .i64 1)) fun d => Y3 [d] h) (eK (eT hC (fun s h => ze (zr.l26 zw.E C Q Y3 (s 0) (s 5) (s 11) (s 12)) [(.int .i64 0)] h) hR (fun s h hR => eS hC (fun s h => zr.k22 zw.E C Q Y3 (s 0) (s 5) (s 11) (s 12) h) (eT hC (fun s h => ze (zr.l26 zw.E C Q Y3 (s 0) (s 5) (s 11) (s 12)) [(s 13)] h) hR (fun s h hR => eK (eL hC [0, 5, 11, 12] [13] (on4 (zr.l26 zw.E C Q Y3)) hR (fun Y4 s h hR => e1 hR)))) (fun s h hR => e1 hR)))) (fun s h hR => e1 hR)))))) (fun s h hR => eS hC (fun s h => Q (.bool true) h) (eT hC (fun s h => ze (zr.l15 zw.E C Q (s 0) (s 5)) [(s 14)] h) hR (fun s h hR => eK (eL hC [0, 5] [14] (on2 (zr.l15 zw.E C Q)) hR (fun Y1 s h hR => eT hC (fun s h => ze (zr.l5 zw.E C Q Y1 (s 0) (s 5) (s 14)) [(.int .i64 0)] h) hR (fun s h hR => eS hC (fun s h => B.pv (V.bin .add (s 14) (.int .i64 1)) fun e => Y1 [e] h) (eK (eT hC (fun s h => ze (zr.l5 zw.E C Q Y1 (s 0) (s 5) (s 14)) [(s 15)] h) hR (fun s h hR => eK (eL hC [0, 5, 14] [15] (on3 (zr.l5 zw.E C Q Y1)) hR (fun Y2 s h hR => e1 hR))))) (fun s h hR => e1 hR)))))) (fun s h hR => e1 hR)))))))
theorem zw.imp : zw.Imp (AC P) N := fun a h Q hR => eF mixed (fn := Tryz.f125) (fun hC => zw.L hC (dn Q) (zbf [a]) h hR)
def z7.I : Bx := ⟨[], [], 193, [(7, pz [(7, [3])] 10), (24, pz [(9, [3, 6]), (30, [24, 27])] 35), (41, pz [(9, [3, 6]), (22, [16, 19])] 26)]⟩
abbrev z7.E (C : CSem) : zfj := opsD C 4 72 [.str [], .int .i64 0, .nils, .nils] (N 109) (N 110)
theorem z7.L : LkT P z7.I Tryz.f126 fun C Q s h => z7.cps C N (s 0) h Q := fun {C} hC Q s h hR => eT hC (fun s h => ze (zr.l103 (z7.E C) C Q (s 0)) [(.int .i64 0)] h) hR (fun s h hR => eS hC (fun s h => B.pv (V.zj (s 0)) fun b => 0 < 1 /\ B.mks h 24 (some [.nils]) b b fun f h => ze (zr.l82 (z7.E C) C Q (s 0) f) [(.int .i64 0)] h) (eT hC (fun s h => ze (zr.l103 (z7.E C) C Q (s 0)) [(s 3)] h) hR (fun s h hR => eK (eL hC [0] [3] (on1 (zr.l103 (z7.E C) C Q)) hR (fun Y9 s h hR => eT hC (fun s h => ze (zr.l93 (z7.E C) C Q Y9 (s 0) (s 3)) [(.int .i64 0)] h) hR (fun s h hR => eS hC (fun s h => B.pv (V.bin .add (s 3) (.int .i64 1)) fun g => Y9 [g] h) (eK (eT hC (fun s h => ze (zr.l93 (z7.E C) C Q Y9 (s 0) (s 3)) [(s 4)] h) hR (fun s h hR => eK (eL hC [0, 3] [4] (on2 (zr.l93 (z7.E C) C Q Y9)) hR (fun Y10 s h hR => e1 hR))))) (fun s h hR => e1 hR)))))) (fun s h hR => eT hC (fun s h => ze (zr.l82 (z7.E C) C Q (s 0) (s 5)) [(.int .i64 0)] h) hR (fun s h hR => eS hC (fun s h => ze (zr.l59 (z7.E C) C Q (s 0) (s 5)) [(.int .i64 0)] h) (eT hC (fun s h => ze (zr.l82 (z7.E C) C Q (s 0) (s 5)) [(s 6)] h) hR (fun s h hR => eK (eL hC [0, 5] [6] (on2 (zr.l82 (z7.E C) C Q)) hR (fun Y7 s h hR => eT hC (fun s h => B.pv (V.idxS 1 (s 0) (s 6)) fun i => B.ld h i fun j => ze (zr.l69 (z7.E C) C Q Y7 (s 0) (s 5) (s 6)) [j, (.int .i64 0)] h) hR (fun s h hR => eS hC (fun s h => B.pv (V.bin .add (s 6) (.int .i64 1)) fun a => Y7 [a] h) (eK (eT hC (fun s h => ze (zr.l69 (z7.E C) C Q Y7 (s 0) (s 5) (s 6)) [(s 7), (.int .i64 0)] h) hR (fun s h hR => eS hC (fun s h => B.pv (V.idxS 1 (s 5) (s 6)) fun k => B.st h k (s 7) fun h => B.pv (V.bin .add (s 6) (.int .i64 1)) fun a => Y7 [a] h) (eT hC (fun s h => ze (zr.l69 (z7.E C) C Q Y7 (s 0) (s 5) (s 6)) [(s 7), (s 8)] h) hR (fun s h hR => eK (eL hC [0, 5, 6] [7, 8] (on3 (zr.l69 (z7.E C) C Q Y7)) hR (fun Y8 s h hR => e1 hR)))) (fun s h hR => e1 hR)))) (fun s h hR => e1 hR)))))) (fun s h hR => eS hC (fun s h => ze (zr.l40 (z7.E C) C Q (s 0) (s 5)) [(.int .i64 0)] h) (eT hC (fun s h => ze (zr.l59 (z7.E C) C Q (s 0) (s 5)) [(s 9)] h) hR (fun s h hR => eK (eL hC [0, 5] [9] (on2 (zr.l59 (z7.E C) C Q)) hR (fun Y5 s h hR => eT hC (fun s h => ze (zr.l49 (z7.E C) C Q Y5 (s 0) (s 5) (s 9)) [(.int .i64 0)] h) hR (fun s h hR => eS hC (fun s h => B.pv (V.bin .add (s 9) (.int .i64 1)) fun l => Y5 [l] h) (eK (eT hC (fun s h => ze (zr.l49 (z7.E C) C Q Y5 (s 0) (s 5) (s 9)) [(s 10)] h) hR (fun s h hR => eK (eL hC [0, 5, 9] [10] (on3 (zr.l49 (z7.E C) C Q Y5)) hR (fun Y6 s h hR => e1 hR))))) (fun s h hR => e1 hR)))))) (fun s h hR => eS hC (fun s h => ze (zr.l15 (z7.E C) C Q (s 0) (s 5)) [(.int .i64 0)] h) (eT hC (fun s h => ze (zr.l40 (z7.E C) C Q (s 0) (s 5)) [(s 11)] h) hR (fun s h hR => eK (eL hC [0, 5] [11] (on2 (zr.l40 (z7.E C) C Q)) hR (fun Y3 s h hR => eT hC (fun s h => 0 < 4 /\ B.mks h 72 (some [.str [], .int .i64 0, .nils, .nils]) (.int .i64 64) (.int .i64 64) fun c h => ze (zr.l26 (z7.E C) C Q Y3 (s 0) (s 5) (s 11) c) [(.int .i64 0)] h) hR (fun s h hR => eS hC (fun s h => B.pv (V.bin .add (s 11) (.int .i64 1)) fun d => Y3 [d] h) (eK (eT hC (fun s h => ze (zr.l26 (z7.E C) C Q Y3 (s 0) (s 5) (s 11) (s 12)) [(.int .i64 0)] h) hR (fun s h hR => eS hC (fun s h => zr.k22 (z7.E C) C Q Y3 (s 0) (s 5) (s 11) (s 12) h) (eT hC (fun s h => ze (zr.l26 (z7.E C) C Q Y3 (s 0) (s 5) (s 11) (s 12)) [(s 13)] h) hR (fun s h hR => eK (eL hC [0, 5, 11, 12] [13] (on4 (zr.l26 (z7.E C) C Q Y3)) hR (fun Y4 s h hR => e1 hR)))) (fun s h hR => e1 hR)))) (fun s h hR => e1 hR)))))) (fun s h hR => eS hC (fun s h => Q (.bool true) h) (eT hC (fun s h => ze (zr.l15 (z7.E C) C Q (s 0) (s 5)) [(s 14)] h) hR (fun s h hR => eK (eL hC [0, 5] [14] (on2 (zr.l15 (z7.E C) C Q)) hR (fun Y1 s h hR => eT hC (fun s h => ze (zr.l5 (z7.E C) C Q Y1 (s 0) (s 5) (s 14)) [(.int .i64 0)] h) hR (fun s h hR => eS hC (fun s h => B.pv (V.bin .add (s 14) (.int .i64 1)) fun e => Y1 [e] h) (eK (eT hC (fun s h => ze (zr.l5 (z7.E C) C Q Y1 (s 0) (s 5) (s 14)) [(s 15)] h) hR (fun s h hR => eK (eL hC [0, 5, 14] [15] (on3 (zr.l5 (z7.E C) C Q Y1)) hR (fun Y2 s h hR => e1 hR))))) (fun s h hR => e1 hR)))))) (fun s h hR => e1 hR)))))))
theorem z7.imp : z7.Imp (AC P) N := fun a h Q hR => eF mixed (fn := Tryz.f126) (fun hC => z7.L hC (dn Q) (zbf [a]) h hR)
def z6.I : Bx := ⟨[], [], 193, [(7, pz [(7, [3])] 10), (24, pz [(9, [3, 6]), (30, [24, 27])] 35), (41, pz [(9, [3, 6]), (22, [16, 19])] 26)]⟩
abbrev z6.E : zfj := opsF 8 80 [.int .i64 0, .str [], .int .i64 0, .int .i64 0, .int .i64 0, .int .u8 0, .int .i64 0, .str []] (N 111) [.i .i64, .s, .i .i64, .i .i64, .i .i64, .i .u8, .i .i64, .s]
theorem z6.L : LkT P z6.I Tryz.f127 fun C Q s h => z6.cps C N (s 0) h Q := fun {C} hC Q s h hR => eT hC (fun s h => ze (zr.l103 z6.E C Q (s 0)) [(.int .i64 0)] h) hR (fun s h hR => eS hC (fun s h => B.pv (V.zj (s 0)) fun b => 0 < 1 /\ B.mks h 24 (some [.nils]) b b fun f h => ze (zr.l82 z6.E C Q (s 0) f) [(.int .i64 0)] h) (eT hC (fun s h => ze (zr.l103 z6.E C Q (s 0)) [(s 3)] h) hR (fun s h hR => eK (eL hC [0] [3] (on1 (zr.l103 z6.E C Q)) hR (fun Y9 s h hR => eT hC (fun s h => ze (zr.l93 z6.E C Q Y9 (s 0) (s 3)) [(.int .i64 0)] h) hR (fun s h hR => eS hC (fun s h => B.pv (V.bin .add (s 3) (.int .i64 1)) fun g => Y9 [g] h) (eK (eT hC (fun s h => ze (zr.l93 z6.E C Q Y9 (s 0) (s 3)) [(s 4)] h) hR (fun s h hR => eK (eL hC [0, 3] [4] (on2 (zr.l93 z6.E C Q Y9)) hR (fun Y10 s h hR => e1 hR))))) (fun s h hR => e1 hR)))))) (fun s h hR => eT hC (fun s h => ze (zr.l82 z6.E C Q (s 0) (s 5)) [(.int .i64 0)] h) hR (fun s h hR => eS hC (fun s h => ze (zr.l59 z6.E C Q (s 0) (s 5)) [(.int .i64 0)] h) (eT hC (fun s h => ze (zr.l82 z6.E C Q (s 0) (s 5)) [(s 6)] h) hR (fun s h hR => eK (eL hC [0, 5] [6] (on2 (zr.l82 z6.E C Q)) hR (fun Y7 s h hR => eT hC (fun s h => B.pv (V.idxS 1 (s 0) (s 6)) fun i => B.ld h i fun j => ze (zr.l69 z6.E C Q Y7 (s 0) (s 5) (s 6)) [j, (.int .i64 0)] h) hR (fun s h hR => eS hC (fun s h => B.pv (V.bin .add (s 6) (.int .i64 1)) fun a => Y7 [a] h) (eK (eT hC (fun s h => ze (zr.l69 z6.E C Q Y7 (s 0) (s 5) (s 6)) [(s 7), (.int .i64 0)] h) hR (fun s h hR => eS hC (fun s h => B.pv (V.idxS 1 (s 5) (s 6)) fun k => B.st h k (s 7) fun h => B.pv (V.bin .add (s 6) (.int .i64 1)) fun a => Y7 [a] h) (eT hC (fun s h => ze (zr.l69 z6.E C Q Y7 (s 0) (s 5) (s 6)) [(s 7), (s 8)] h) hR (fun s h hR => eK (eL hC [0, 5, 6] [7, 8] (on3 (zr.l69 z6.E C Q Y7)) hR (fun Y8 s h hR => e1 hR)))) (fun s h hR => e1 hR)))) (fun s h hR => e1 hR)))))) (fun s h hR => eS hC (fun s h => ze (zr.l40 z6.E C Q (s 0) (s 5)) [(.int .i64 0)] h) (eT hC (fun s h => ze (zr.l59 z6.E C Q (s 0) (s 5)) [(s 9)] h) hR (fun s h hR => eK (eL hC [0, 5] [9] (on2 (zr.l59 z6.E C Q)) hR (fun Y5 s h hR => eT hC (fun s h => ze (zr.l49 z6.E C Q Y5 (s 0) (s 5) (s 9)) [(.int .i64 0)] h) hR (fun s h hR => eS hC (fun s h => B.pv (V.bin .add (s 9) (.int .i64 1)) fun l => Y5 [l] h) (eK (eT hC (fun s h => ze (zr.l49 z6.E C Q Y5 (s 0) (s 5) (s 9)) [(s 10)] h) hR (fun s h hR => eK (eL hC [0, 5, 9] [10] (on3 (zr.l49 z6.E C Q Y5)) hR (fun Y6 s h hR => e1 hR))))) (fun s h hR => e1 hR)))))) (fun s h hR => eS hC (fun s h => ze (zr.l15 z6.E C Q (s 0) (s 5)) [(.int .i64 0)] h) (eT hC (fun s h => ze (zr.l40 z6.E C Q (s 0) (s 5)) [(s 11)] h) hR (fun s h hR => eK (eL hC [0, 5] [11] (on2 (zr.l40 z6.E C Q)) hR (fun Y3 s h hR => eT hC (fun s h => 0 < 8 /\ B.mks h 80 (some [.int .i64 0, .str [], .int .i64 0, .int .i64 0, .int .i64 0, .int .u8 0, .int .i64 0, .str []]) (.int .i64 64) (.int .i64 64) fun c h => ze (zr.l26 z6.E C Q Y3 (s 0) (s 5) (s 11) c) [(.int .i64 0)] h) hR (fun s h hR => eS hC (fun s h => B.pv (V.bin .add (s 11) (.int .i64 1)) fun d => Y3 [d] h) (eK (eT hC (fun s h => ze (zr.l26 z6.E C Q Y3 (s 0) (s 5) (s 11) (s 12)) [(.int .i64 0)] h) hR (fun s h hR => eS hC (fun s h => zr.k22 z6.E C Q Y3 (s 0) (s 5) (s 11) (s 12) h) (eT hC (fun s h => ze (zr.l26 z6.E C Q Y3 (s 0) (s 5) (s 11) (s 12)) [(s 13)] h) hR (fun s h hR => eK (eL hC [0, 5, 11, 12] [13] (on4 (zr.l26 z6.E C Q Y3)) hR (fun Y4 s h hR => e1 hR)))) (fun s h hR => e1 hR)))) (fun s h hR => e1 hR)))))) (fun s h hR => eS hC (fun s h => Q (.bool true) h) (eT hC (fun s h => ze (zr.l15 z6.E C Q (s 0) (s 5)) [(s 14)] h) hR (fun s h hR => eK (eL hC [0, 5] [14] (on2 (zr.l15 z6.E C Q)) hR (fun Y1 s h hR => eT hC (fun s h => ze (zr.l5 z6.E C Q Y1 (s 0) (s 5) (s 14)) [(.int .i64 0)] h) hR (fun s h hR => eS hC (fun s h => B.pv (V.bin .add (s 14) (.int .i64 1)) fun e => Y1 [e] h) (eK (eT hC (fun s h => ze (zr.l5 z6.E C Q Y1 (s 0) (s 5) (s 14)) [(s 15)] h) hR (fun s h hR => eK (eL hC [0, 5, 14] [15] (on3 (zr.l5 z6.E C Q Y1)) hR (fun Y2 s h hR => e1 hR))))) (fun s h hR => e1 hR)))))) (fun s h hR => e1 hR)))))))
theorem z6.imp : z6.Imp (AC P) N := fun a h Q hR => eF mixed (fn := Tryz.f127) (fun hC => z6.L hC (dn Q) (zbf [a]) h hR)
def zf7.I : Bx := ⟨[], [], 193, [(7, pz [(7, [3])] 10), (24, pz [(9, [3, 6]), (30, [24, 27])] 35), (41, pz [(9, [3, 6]), (22, [16, 19])] 26)]⟩
def zfn.I : Bx := ⟨[], [], 193, [(7, pz [(7, [3])] 10), (24, pz [(9, [3, 6]), (30, [24, 27])] 35), (41, pz [(9, [3, 6]), (22, [16, 19])] 26)]⟩
def zq.I : Bx := ⟨[], [], 193, [(7, pz [(7, [3])] 10), (24, pz [(9, [3, 6]), (30, [24, 27])] 35), (41, pz [(9, [3, 6]), (22, [16, 19])] 26)]⟩
abbrev zq.E (C : CSem) : zfj := opsD C 6 96 [.int .i64 0, .int .i64 0, .int .i64 0, .nils, .nils, .nils] (N 115) (N 116)
theorem zq.L : LkT P zq.I Tryz.f130 fun C Q s h => zq.cps C N (s 0) h Q := fun {C} hC Q s h hR => eT hC (fun s h => ze (zr.l103 (zq.E C) C Q (s 0)) [(.int .i64 0)] h) hR (fun s h hR => eS hC (fun s h => B.pv (V.zj (s 0)) fun b => 0 < 1 /\ B.mks h 24 (some [.nils]) b b fun f h => ze (zr.l82 (zq.E C) C Q (s 0) f) [(.int .i64 0)] h) (eT hC (fun s h => ze (zr.l103 (zq.E C) C Q (s 0)) [(s 3)] h) hR (fun s h hR => eK (eL hC [0] [3] (on1 (zr.l103 (zq.E C) C Q)) hR (fun Y9 s h hR => eT hC (fun s h => ze (zr.l93 (zq.E C) C Q Y9 (s 0) (s 3)) [(.int .i64 0)] h) hR (fun s h hR => eS hC (fun s h => B.pv (V.bin .add (s 3) (.int .i64 1)) fun g => Y9 [g] h) (eK (eT hC (fun s h => ze (zr.l93 (zq.E C) C Q Y9 (s 0) (s 3)) [(s 4)] h) hR (fun s h hR => eK (eL hC [0, 3] [4] (on2 (zr.l93 (zq.E C) C Q Y9)) hR (fun Y10 s h hR => e1 hR))))) (fun s h hR => e1 hR)))))) (fun s h hR => eT hC (fun s h => ze (zr.l82 (zq.E C) C Q (s 0) (s 5)) [(.int .i64 0)] h) hR (fun s h hR => eS hC (fun s h => ze (zr.l59 (zq.E C) C Q (s 0) (s 5)) [(.int .i64 0)] h) (eT hC (fun s h => ze (zr.l82 (zq.E C) C Q (s 0) (s 5)) [(s 6)] h) hR (fun s h hR => eK (eL hC [0, 5] [6] (on2 (zr.l82 (zq.E C) C Q)) hR (fun Y7 s h hR => eT hC (fun s h => B.pv (V.idxS 1 (s 0) (s 6)) fun i => B.ld h i fun j => ze (zr.l69 (zq.E C) C Q Y7 (s 0) (s 5) (s 6)) [j, (.int .i64 0)] h) hR (fun s h hR => eS hC (fun s h => B.pv (V.bin .add (s 6) (.int .i64 1)) fun a => Y7 [a] h) (eK (eT hC (fun s h => ze (zr.l69 (zq.E C) C Q Y7 (s 0) (s 5) (s 6)) [(s 7), (.int .i64 0)] h) hR (fun s h hR => eS hC (fun s h => B.pv (V.idxS 1 (s 5) (s 6)) fun k => B.st h k (s 7) fun h => B.pv (V.bin .add (s 6) (.int .i64 1)) fun a => Y7 [a] h) (eT hC (fun s h => ze (zr.l69 (zq.E C) C Q Y7 (s 0) (s 5) (s 6)) [(s 7), (s 8)] h) hR (fun s h hR => eK (eL hC [0, 5, 6] [7, 8] (on3 (zr.l69 (zq.E C) C Q Y7)) hR (fun Y8 s h hR => e1 hR)))) (fun s h hR => e1 hR)))) (fun s h hR => e1 hR)))))) (fun s h hR => eS hC (fun s h => ze (zr.l40 (zq.E C) C Q (s 0) (s 5)) [(.int .i64 0)] h) (eT hC (fun s h => ze (zr.l59 (zq.E C) C Q (s 0) (s 5)) [(s 9)] h) hR (fun s h hR => eK (eL hC [0, 5] [9] (on2 (zr.l59 (zq.E C) C Q)) hR (fun Y5 s h hR => eT hC (fun s h => ze (zr.l49 (zq.E C) C Q Y5 (s 0) (s 5) (s 9)) [(.int .i64 0)] h) hR (fun s h hR => eS hC (fun s h => B.pv (V.bin .add (s 9) (.int .i64 1)) fun l => Y5 [l] h) (eK (eT hC (fun s h => ze (zr.l49 (zq.E C) C Q Y5 (s 0) (s 5) (s 9)) [(s 10)] h) hR (fun s h hR => eK (eL hC [0, 5, 9] [10] (on3 (zr.l49 (zq.E C) C Q Y5)) hR (fun Y6 s h hR => e1 hR))))) (fun s h hR => e1 hR)))))) (fun s h hR => eS hC (fun s h => ze (zr.l15 (zq.E C) C Q (s 0) (s 5)) [(.int .i64 0)] h) (eT hC (fun s h => ze (zr.l40 (zq.E C) C Q (s 0) (s 5)) [(s 11)] h) hR (fun s h hR => eK (eL hC [0, 5] [11] (on2 (zr.l40 (zq.E C) C Q)) hR (fun Y3 s h hR => eT hC (fun s h => 0 < 6 /\ B.mks h 96 (some [.int .i64 0, .int .i64 0, .int .i64 0, .nils, .nils, .nils]) (.int .i64 64) (.int .i64 64) fun c h => ze (zr.l26 (zq.E C) C Q Y3 (s 0) (s 5) (s 11) c) [(.int .i64 0)] h) hR (fun s h hR => eS hC (fun s h => B.pv (V.bin .add (s 11) (.int .i64 1)) fun d => Y3 [d] h) (eK (eT hC (fun s h => ze (zr.l26 (zq.E C) C Q Y3 (s 0) (s 5) (s 11) (s 12)) [(.int .i64 0)] h) hR (fun s h hR => eS hC (fun s h => zr.k22 (zq.E C) C Q Y3 (s 0) (s 5) (s 11) (s 12) h) (eT hC (fun s h => ze (zr.l26 (zq.E C) C Q Y3 (s 0) (s 5) (s 11) (s 12)) [(s 13)] h) hR (fun s h hR => eK (eL hC [0, 5, 11, 12] [13] (on4 (zr.l26 (zq.E C) C Q Y3)) hR (fun Y4 s h hR => e1 hR)))) (fun s h hR => e1 hR)))) (fun s h hR => e1 hR)))))) (fun s h hR => eS hC (fun s h => Q (.bool true) h) (eT hC (fun s h => ze (zr.l15 (zq.E C) C Q (s 0) (s 5)) [(s 14)] h) hR (fun s h hR => eK (eL hC [0, 5] [14] (on2 (zr.l15 (zq.E C) C Q)) hR (fun Y1 s h hR => eT hC (fun s h => ze (zr.l5 (zq.E C) C Q Y1 (s 0) (s 5) (s 14)) [(.int .i64 0)] h) hR (fun s h hR => eS hC (fun s h => B.pv (V.bin .add (s 14) (.int .i64 1)) fun e => Y1 [e] h) (eK (eT hC (fun s h => ze (zr.l5 (zq.E C) C Q Y1 (s 0) (s 5) (s 14)) [(s 15)] h) hR (fun s h hR => eK (eL hC [0, 5, 14] [15] (on3 (zr.l5 (zq.E C) C Q Y1)) hR (fun Y2 s h hR => e1 hR))))) (fun s h hR => e1 hR)))))) (fun s h hR => e1 hR)))))))
theorem zq.imp : zq.Imp (AC P) N := fun a h Q hR => eF mixed (fn := Tryz.f130) (fun hC => zq.L hC (dn Q) (zbf [a]) h hR)
def zf5.I : Bx := ⟨[], [], 193, [(7, pz [(7, [3])] 10), (24, pz [(9, [3, 6]), (30, [24, 27])] 35), (41, pz [(9, [3, 6]), (22, [16, 19])] 26)]⟩
def zfm.I : Bx := ⟨[], [], 193, [(7, pz [(7, [3])] 10), (24, pz [(9, [3, 6]), (30, [24, 27])] 35), (41, pz [(9, [3, 6]), (22, [16, 19])] 26)]⟩
def zfs.I : Bx := ⟨[], [], 193, [(7, pz [(7, [3])] 10), (24, pz [(9, [3, 6]), (30, [24, 27])] 35), (41, pz [(9, [3, 6]), (22, [16, 19])] 26)]⟩
def ze2.I : Bx := ⟨[], [], 193, [(7, pz [(7, [3])] 10), (24, pz [(9, [3, 6]), (30, [24, 27])] 35), (41, pz [(9, [3, 6]), (22, [16, 19])] 26)]⟩
def zfq.I : Bx := ⟨[], [], 193, [(7, pz [(7, [3])] 10), (24, pz [(9, [3, 6]), (30, [24, 27])] 35), (41, pz [(9, [3, 6]), (22, [16, 19])] 26)]⟩
def ze1.I : Bx := ⟨[], [], 193, [(7, pz [(7, [3])] 10), (24, pz [(9, [3, 6]), (30, [24, 27])] 35), (41, pz [(9, [3, 6]), (22, [16, 19])] 26)]⟩
def zfp.I : Bx := ⟨[], [], 193, [(7, pz [(7, [3])] 10), (24, pz [(9, [3, 6]), (30, [24, 27])] 35), (41, pz [(9, [3, 6]), (22, [16, 19])] 26)]⟩
def zfo.I : Bx := ⟨[], [], 193, [(7, pz [(7, [3])] 10), (24, pz [(9, [3, 6]), (30, [24, 27])] 35), (41, pz [(9, [3, 6]), (22, [16, 19])] 26)]⟩
def zcx.I : Bx := ⟨[], [], 25, []⟩
theorem zcx.L : LkT P zcx.I Tryz.f139 fun C Q s h => zcx.cps C N (s 0) h Q := fun {C} hC Q s h hR => eT hC (fun s h => zcx.k3 C N Q (s 0) h) hR (fun s h hR => eT hC (fun s h => B.appW h 1 1 (s 3) (s 0) fun a h => ze (zuz.l4 C 1 (N 64) (.int .u8 0) 1 Q (s 0)) [a, (.int .i64 0)] h) hR (fun s h hR => eT hC (fun s h => ze (zuz.l4 C 1 (N 64) (.int .u8 0) 1 Q (s 0)) [(s 3), (.int .i64 0)] h) hR (fun s h hR => eS hC (fun s h => B.pv (V.zj (s 0)) fun b => B.pv (V.zgo 1 (s 3) none (some b)) fun c => Q c h) (eT hC (fun s h => ze (zuz.l4 C 1 (N 64) (.int .u8 0) 1 Q (s 0)) [(s 3), (s 4)] h) hR (fun s h hR => eK (eL hC [0] [3, 4] (on1 (zuz.l4 C 1 (N 64) (.int .u8 0) 1 Q)) hR (fun Y1 s h hR => e1 hR)))) (fun s h hR => e1 hR))))
theorem zcx.imp : zcx.Imp (AC P) N := fun a h Q hR => eF mixed (fn := Tryz.f139) (fun hC => zcx.L hC (dn Q) (zbf [a]) h hR)
def zc2.I : Bx := ⟨[], [], 12, []⟩
theorem zc2.L : LkT P zc2.I Tryz.f140 fun C Q s h => zc2.cps C N (s 0) (s 1) h Q := fun {C} hC Q s h hR => e1 hR
theorem zc2.imp : zc2.Imp (AC P) N := fun a b h Q hR => eF mixed (fn := Tryz.f140) (fun hC => zc2.L hC (dn Q) (zbf [a, b]) h hR)
theorem ziq.imp : ziq.Imp (AC P) N := fun x y a b S T h Q hx hy hq => zsn (fn := Tryz.f141) (by kernel_rfl) (by kernel_rfl) (by kernel_rfl) (by kernel_rfl) (by kernel_rfl) hx hy hq
def zcc.I : Bx := ⟨[], [], 34, []⟩
theorem zcc.L : LkT P zcc.I Tryz.f142 fun C Q s h => zcc.cps C N (s 0) h Q := fun {C} hC Q s h hR => e1 hR
theorem zcc.imp : zcc.Imp (AC P) N := fun a h Q hR => eF mixed (fn := Tryz.f142) (fun hC => zcc.L hC (dn Q) (zbf [a]) h hR)
def zck.I : Bx := ⟨[], [], 58, [(7, pz [(30, [25])] 35)]⟩
theorem zck.L : LkT P zck.I Tryz.f143 fun C Q s h => zck.cps C N (s 0) (s 1) h Q := fun {C} hC Q s h hR => eT hC (fun s h => zck.k4 C N Q (s 0) (s 1) h) hR (fun s h hR => eT hC (fun s h => zck.k3 C N Q (s 0) (s 1) h) hR (fun s h hR => eT hC (fun s h => ze (zvo.l4 C (N 64) 1 Q (s 1) (s 5)) [(.int .i64 0)] h) hR (fun s h hR => eS hC (fun s h => Q (.bool true) h) (eT hC (fun s h => ze (zvo.l4 C (N 64) 1 Q (s 1) (s 5)) [(s 6)] h) hR (fun s h hR => eK (eL hC [1, 5] [6] (on2 (zvo.l4 C (N 64) 1 Q)) hR (fun Y1 s h hR => e1 hR)))) (fun s h hR => e1 hR))))
theorem zck.imp : zck.Imp (AC P) N := fun a b h Q hR => eF mixed (fn := Tryz.f143) (fun hC => zck.L hC (dn Q) (zbf [a, b]) h hR)
def zc7.I : Bx := ⟨[], [], 20, []⟩
theorem zc7.L : LkT P zc7.I Tryz.f144 fun C Q s h => zc7.cps C N (s 0) h Q := fun {C} hC Q s h hR => eT hC (fun s h => ze (zvn.l3 C 1 (N 64) (fun h p v K => B.st h p v K) 2 Q (s 2)) [(.int .i64 0)] h) hR (fun s h hR => eT hC (fun s h => ze (zvn.l3 C 1 (N 64) (fun h p v K => B.st h p v K) 2 Q (s 2)) [(s 3)] h) hR (fun s h hR => eK (eL hC [2] [3] (fun kv lv h Y1 => match kv with | [a] => zvn.l3 C 1 (N 64) (fun h p v K => B.st h p v K) 2 Q a lv h Y1 | _ => False) hR (fun Y1 s h hR => e1 hR))))
theorem zc7.imp : zc7.Imp (AC P) N := fun a h Q hR => eF mixed (fn := Tryz.f144) (fun hC => zc7.L hC (dn Q) (zbf [a]) h hR)
def zo.I : Bx := ⟨[], [], 60, [(1, pz [] 18), (8, pz [] 17)]⟩
theorem zo.L : LkT P zo.I Tryz.f145 fun C Q s h => zo.cps C N (s 0) (s 1) h Q := fun {C} hC Q s h hR => eT hC (fun s h => zo.k4 C N Q (s 0) (s 1) h) hR (fun s h hR => eT hC (fun s h => ze (zo.l3 C N Q (s 0) (s 1)) [(.int .u64 0), (.int .i64 0)] h) hR (fun s h hR => eT hC (fun s h => ze (zo.l3 C N Q (s 0) (s 1)) [(s 5), (.int .i64 0)] h) hR (fun s h hR => eS hC (fun s h => zo.k1 C N Q (s 0) (s 1) (s 5) h) (eT hC (fun s h => ze (zo.l3 C N Q (s 0) (s 1)) [(s 5), (s 6)] h) hR (fun s h hR => eK (eL hC [0, 1] [5, 6] (on2 (zo.l3 C N Q)) hR (fun Y1 s h hR => e1 hR)))) (fun s h hR => e1 hR))))
theorem zo.imp : zo.Imp (AC P) N := fun a b h Q hR => eF mixed (fn := Tryz.f145) (fun hC => zo.L hC (dn Q) (zbf [a, b]) h hR)
def zb0.I : Bx := ⟨[], [], 39, [(3, pz [] 17)]⟩
theorem zb0.L : LkT P zb0.I Tryz.f146 fun C Q s h => zb0.cps C N (s 0) h Q := fun {C} hC Q s h hR => e1 hR
theorem zb0.imp : zb0.Imp (AC P) N := fun a h Q hR => eF mixed (fn := Tryz.f146) (fun hC => zb0.L hC (dn Q) (zbf [a]) h hR)
def zc1.I : Bx := ⟨[3], [5, 9, 13], 16, []⟩
theorem zc1.L : LkT P zc1.I Tryz.f147 fun C Q s h => zc1.cps C N (s 0) (s 1) h Q := fun {C} hC Q s h hR => e1 hR
theorem zc1.imp : zc1.Imp (AC P) N := fun a b h Q hR => eF mixed (fn := Tryz.f147) (fun hC => zc1.L hC (dn Q) (zbf [a, b]) h hR)
def zb3.I : Bx := ⟨[1, 5, 7], [8, 12, 17, 22, 27, 30, 37, 41, 46, 51, 55, 60, 65, 69, 76, 81, 87, 92, 103, 110, 114, 119], 124, []⟩
theorem zb3.L : LkT P zb3.I Tryz.f149 fun C Q s h => zb3.cps C N (s 0) h Q := fun {C} hC Q s h hR => eT hC (fun s h => zb3.k6 C N Q (s 125) h) hR (fun s h hR => eT hC (fun s h => zb3.k5 C N Q (s 3) (s 125) h) hR (fun s h hR => eT hC (fun s h => B.al (s 125) (B.pv (V.zg 5 (s 125)) fun b => B.pv (V.zj b) fun d => ze (zb3.l4 C N Q b d (s 125)) [(.int .i64 0)] h)) hR (fun s h hR => eS hC (fun s h => B.al (s 125) (B.pv (V.zg 6 (s 125)) fun a => B.pv (V.zj a) fun c => ze (zb3.l2 C N Q a c) [(.int .i64 0)] h)) (eT hC (fun s h => ze (zb3.l4 C N Q (s 93) (s 94) (s 125)) [(s 95)] h) hR (fun s h hR => eK (eL hC [93, 94, 125] [95] (on3 (zb3.l4 C N Q)) hR (fun Y2 s h hR => e1 hR)))) (fun s h hR => eS hC (fun s h => Q (.bool true) h) (eT hC (fun s h => ze (zb3.l2 C N Q (s 104) (s 105)) [(s 106)] h) hR (fun s h hR => eK (eL hC [104, 105] [106] (on2 (zb3.l2 C N Q)) hR (fun Y1 s h hR => e1 hR)))) (fun s h hR => e1 hR)))))
theorem zb3.imp : zb3.Imp (AC P) N := fun a h Q hR => eF mixed (fn := Tryz.f149) (fun hC => zb3.L hC (dn Q) (zbf [a]) h hR)
def ze7.I : Bx := ⟨[], [], 23, []⟩
theorem ze7.L : LkT P ze7.I Tryz.f150 fun C Q s h => ze7.cps C N (s 0) (s 1) (s 2) h Q := fun {C} hC Q s h hR => eT hC (fun s h => B.pv (V.bin .sub (s 2) (.int .i64 1)) fun a => ze (ze7.l2 C N Q (s 1)) [(s 0), a] h) hR (fun s h hR => eS hC (fun s h => Q (s 0) h) (eT hC (fun s h => ze (ze7.l2 C N Q (s 1)) [(s 0), (s 7)] h) hR (fun s h hR => eK (eL hC [1] [0, 7] (on1 (ze7.l2 C N Q)) hR (fun Y1 s h hR => e1 hR)))) (fun s h hR => e1 hR))
theorem ze7.imp : ze7.Imp (AC P) N := fun a b c h Q hR => eF mixed (fn := Tryz.f150) (fun hC => ze7.L hC (dn Q) (zbf [a, b, c]) h hR)
def zt.I : Bx := ⟨[], [], 31, [(3, pz [] 7)]⟩
theorem zt.L : LkT P zt.I Tryz.f151 fun C Q s h => zt.cps C N (s 0) (s 1) (s 2) h Q := fun {C} hC Q s h hR => eT hC (fun s h => ze (zt.l2 C N Q (s 0) (s 1) (s 2)) [(s 4)] h) hR (fun s h hR => eK (eL hC [0, 1, 2] [4] (on3 (zt.l2 C N Q)) hR (fun Y1 s h hR => e1 hR)))
theorem zt.imp : zt.Imp (AC P) N := fun a b c h Q hR => eF mixed (fn := Tryz.f151) (fun hC => zt.L hC (dn Q) (zbf [a, b, c]) h hR)
def zm.I : Bx := ⟨[], [], 68, [(1, pz [] 22), (5, pz [] 17)]⟩
theorem zm.L : LkT P zm.I Tryz.f152 fun C Q s h => zm.cps C N (s 0) (s 1) h Q := fun {C} hC Q s h hR => eT hC (fun s h => zm.k5 C N Q (s 0) (s 1) h) hR (fun s h hR => eT hC (fun s h => zm.k4 C N Q (s 0) (s 1) (.int .i64 0) h) hR (fun s h hR => eT hC (fun s h => zm.k4 C N Q (s 0) (s 1) (s 5) h) hR (fun s h hR => eS hC (fun s h => zm.k1 C N Q (s 0) (s 1) (s 5) h) (eT hC (fun s h => ze (zm.l3 C N Q (s 0) (s 1) (s 47) (s 48)) [(s 5), (s 49)] h) hR (fun s h hR => eK (eL hC [0, 1, 47, 48] [5, 49] (on4 (zm.l3 C N Q)) hR (fun Y1 s h hR => e1 hR)))) (fun s h hR => e1 hR))))
theorem zm.imp : zm.Imp (AC P) N := fun a b h Q hR => eF mixed (fn := Tryz.f152) (fun hC => zm.L hC (dn Q) (zbf [a, b]) h hR)
def zb8.I : Bx := ⟨[], [], 38, [(3, pz [] 17)]⟩
theorem zb8.L : LkT P zb8.I Tryz.f153 fun C Q s h => zb8.cps C N (s 0) h Q := fun {C} hC Q s h hR => e1 hR
theorem zb8.imp : zb8.Imp (AC P) N := fun a h Q hR => eF mixed (fn := Tryz.f153) (fun hC => zb8.L hC (dn Q) (zbf [a]) h hR)
def zbo.I : Bx := ⟨[], [], 26, []⟩
theorem zbo.L : LkT P zbo.I Tryz.f154 fun C Q s h => zbo.cps C N (s 0) (s 1) h Q := fun {C} hC Q s h hR => eT hC (fun s h => B.call C (N 65) [(s 0), (.int .i64 2)] h fun a h => ze (zbo.l2 C N Q (s 0) (s 1)) [.nils, a] h) hR (fun s h hR => eT hC (fun s h => B.call C (N 65) [(s 0), (.int .i64 2)] h fun a h => ze (zbo.l2 C N Q (s 0) (s 1)) [(s 5), a] h) hR (fun s h hR => eS hC (fun s h => Q (s 5) h) (eT hC (fun s h => ze (zbo.l2 C N Q (s 0) (s 1)) [(s 5), (s 6)] h) hR (fun s h hR => eK (eL hC [0, 1] [5, 6] (on2 (zbo.l2 C N Q)) hR (fun Y1 s h hR => e1 hR)))) (fun s h hR => e1 hR)))
theorem zbo.imp : zbo.Imp (AC P) N := fun a b h Q hR => eF mixed (fn := Tryz.f154) (fun hC => zbo.L hC (dn Q) (zbf [a, b]) h hR)
def zci.I : Bx := ⟨[2, 3], [14, 15, 16, 17, 20, 25], 38, []⟩
theorem zci.L : LkT P zci.I Tryz.f155 fun C Q s h => zci.cps C N (s 0) h Q := fun {C} hC Q s h hR => e1 hR
theorem zci.imp : zci.Imp (AC P) N := fun a h Q hR => eF mixed (fn := Tryz.f155) (fun hC => zci.L hC (dn Q) (zbf [a]) h hR)
def zbn.I : Bx := ⟨[], [], 26, []⟩
theorem zbn.L : LkT P zbn.I Tryz.f156 fun C Q s h => zbn.cps C N (s 0) (s 1) h Q := fun {C} hC Q s h hR => eT hC (fun s h => B.call C (N 65) [(s 0), (.int .i64 2)] h fun a h => ze (zbn.l2 C N Q (s 0) (s 1)) [.nils, a] h) hR (fun s h hR => eT hC (fun s h => B.call C (N 65) [(s 0), (.int .i64 2)] h fun a h => ze (zbn.l2 C N Q (s 0) (s 1)) [(s 5), a] h) hR (fun s h hR => eS hC (fun s h => Q (s 5) h) (eT hC (fun s h => ze (zbn.l2 C N Q (s 0) (s 1)) [(s 5), (s 6)] h) hR (fun s h hR => eK (eL hC [0, 1] [5, 6] (on2 (zbn.l2 C N Q)) hR (fun Y1 s h hR => e1 hR)))) (fun s h hR => e1 hR)))
theorem zbn.imp : zbn.Imp (AC P) N := fun a b h Q hR => eF mixed (fn := Tryz.f156) (fun hC => zbn.L hC (dn Q) (zbf [a, b]) h hR)
def zch.I : Bx := ⟨[2], [], 10, []⟩
theorem zch.L : LkT P zch.I Tryz.f157 fun C Q s h => zch.cps C N (s 0) h Q := fun {C} hC Q s h hR => e1 hR
theorem zch.imp : zch.Imp (AC P) N := fun a h Q hR => eF mixed (fn := Tryz.f157) (fun hC => zch.L hC (dn Q) (zbf [a]) h hR)
def zfh.I : Bx := ⟨[], [], 10, []⟩
theorem zfh.L : LkT P zfh.I Tryz.f167 fun C Q s h => zfh.cps C N (s 0) (s 1) h Q := fun {C} hC Q s h hR => e1 hR
theorem zfh.imp : zfh.Imp (AC P) N := fun a b h Q hR => eF mixed (fn := Tryz.f167) (fun hC => zfh.L hC (dn Q) (zbf [a, b]) h hR)
def zdv.I : Bx := ⟨[], [], 29, []⟩
theorem zdv.L : LkT P zdv.I Tryz.f168 fun C Q s h => zdv.cps C N (s 0) (s 1) h Q := fun {C} hC Q s h hR => eT hC (fun s h => B.pv (V.zj (s 1)) fun c => ze (zdv.l2 C N Q (s 0) (s 1) (s 1) c) [(.int .i64 0)] h) hR (fun s h hR => eS hC (fun s h => B.pv (V.zj (s 1)) fun a => B.pv (V.bin .leq a (s 0)) fun b => Q b h) (eT hC (fun s h => ze (zdv.l2 C N Q (s 0) (s 1) (s 7) (s 8)) [(s 9)] h) hR (fun s h hR => eK (eL hC [0, 1, 7, 8] [9] (on4 (zdv.l2 C N Q)) hR (fun Y1 s h hR => e1 hR)))) (fun s h hR => e1 hR))
theorem zdv.imp : zdv.Imp (AC P) N := fun a b h Q hR => eF mixed (fn := Tryz.f168) (fun hC => zdv.L hC (dn Q) (zbf [a, b]) h hR)
def zdg.I : Bx := ⟨[1], [3, 7, 9, 14], 18, []⟩
theorem zdg.L : LkT P zdg.I Tryz.f169 fun C Q s h => zdg.cps C N (s 0) h Q := fun {C} hC Q s h hR => e1 hR
theorem zdg.imp : zdg.Imp (AC P) N := fun a h Q hR => eF mixed (fn := Tryz.f169) (fun hC => zdg.L hC (dn Q) (zbf [a]) h hR)
def zbr.I : Bx := ⟨[], [], 27, []⟩
theorem zbr.L : LkT P zbr.I Tryz.f170 fun C Q s h => zbr.cps C N (s 0) (s 1) h Q := fun {C} hC Q s h hR => eT hC (fun s h => B.pv (V.bin .lss (s 1) (.int .i64 0)) fun a => B.cond a (False) (zhd.k1 C (opsS 1 (.int .u8 0) 0) Q (s 0) (s 1) h)) hR (fun s h hR => eT hC (fun s h => zhd.k1 C (opsS 1 (.int .u8 0) 0) Q (s 0) (s 1) h) hR (fun s h hR => e1 hR))
theorem zbr.imp : zbr.Imp (AC P) N := fun a b h Q hR => eF mixed (fn := Tryz.f170) (fun hC => zbr.L hC (dn Q) (zbf [a, b]) h hR)
def zcv.I : Bx := ⟨[], [], 26, [(6, pz [] 9)]⟩
theorem zcv.L : LkT P zcv.I Tryz.f173 fun C Q s h => zcv.cps C N (s 0) (s 1) h Q := fun {C} hC Q s h hR => eT hC (fun s h => zcv.k3 C N Q (s 0) (s 1) h) hR (fun s h hR => eT hC (fun s h => ze (zmm.l4 2 [.s, .i .i64] Q (s 0) (s 1)) [(.int .i64 0)] h) hR (fun s h hR => eS hC (fun s h => Q (.bool true) h) (eT hC (fun s h => ze (zmm.l4 2 [.s, .i .i64] Q (s 0) (s 1)) [(s 5)] h) hR (fun s h hR => eK (eL hC [0, 1] [5] (on2 (zmm.l4 2 [.s, .i .i64] Q)) hR (fun Y1 s h hR => e1 hR)))) (fun s h hR => e1 hR)))
theorem zcv.imp : zcv.Imp (AC P) N := fun a b h Q hR => eF mixed (fn := Tryz.f173) (fun hC => zcv.L hC (dn Q) (zbf [a, b]) h hR)
def zcu.I : Bx := ⟨[], [], 26, [(6, pz [] 9)]⟩
theorem zcu.L : LkT P zcu.I Tryz.f174 fun C Q s h => zcu.cps C N (s 0) (s 1) h Q := fun {C} hC Q s h hR => eT hC (fun s h => zcu.k3 C N Q (s 0) (s 1) h) hR (fun s h hR => eT hC (fun s h => ze (zqo.l4  Q (s 0) (s 1)) [(.int .i64 0)] h) hR (fun s h hR => eS hC (fun s h => Q (.bool true) h) (eT hC (fun s h => ze (zqo.l4  Q (s 0) (s 1)) [(s 5)] h) hR (fun s h hR => eK (eL hC [0, 1] [5] (on2 (zqo.l4  Q)) hR (fun Y1 s h hR => e1 hR)))) (fun s h hR => e1 hR)))
theorem zcu.imp : zcu.Imp (AC P) N := fun a b h Q hR => eF mixed (fn := Tryz.f174) (fun hC => zcu.L hC (dn Q) (zbf [a, b]) h hR)
def zb4.I : Bx := ⟨[], [], 56, []⟩
theorem zb4.L : LkT P zb4.I Tryz.f177 fun C Q s h => zb4.cps C N (s 0) h Q := fun {C} hC Q s h hR => eT hC (fun s h => zb4.k3 C N Q (s 0) h) hR (fun s h hR => eT hC (fun s h => ze (zb4.l2 C N Q (s 0)) [(.int .i64 0)] h) hR (fun s h hR => eS hC (fun s h => Q (.bool true) h) (eT hC (fun s h => ze (zb4.l2 C N Q (s 0)) [(s 3)] h) hR (fun s h hR => eK (eL hC [0] [3] (on1 (zb4.l2 C N Q)) hR (fun Y1 s h hR => e1 hR)))) (fun s h hR => e1 hR)))
theorem zb4.imp : zb4.Imp (AC P) N := fun a h Q hR => eF mixed (fn := Tryz.f177) (fun hC => zb4.L hC (dn Q) (zbf [a]) h hR)
def zd6.I : Bx := ⟨[1], [6, 14, 19, 25, 30, 34, 43, 47, 57, 62, 66, 75, 83, 87, 97, 102, 106, 115, 123, 132, 141, 151, 159, 169, 178, 180, 189], 195, [(4, [(0, []), (2, []), (3, []), (4, []), (1, [3]), (5, []), (6, []), (7, []), (8, []), (9, []), (10, []), (11, []), (12, []), (13, []), (14, []), (15, []), (16, [])])]⟩
theorem zd6.L : LkT P zd6.I Tryz.f178 fun C Q s h => zd6.cps C N (s 0) h Q := fun {C} hC Q s h hR => e1 hR
theorem zd6.imp : zd6.Imp (AC P) N := fun a h Q hR => eF mixed (fn := Tryz.f178) (fun hC => zd6.L hC (dn Q) (zbf [a]) h hR)
def zdi.I : Bx := ⟨[], [], 23, []⟩
theorem zdi.L : LkT P zdi.I Tryz.f179 fun C Q s h => zdi.cps C N (s 0) (s 1) h Q := fun {C} hC Q s h hR => e1 hR
theorem zdi.imp : zdi.Imp (AC P) N := fun a b h Q hR => eF mixed (fn := Tryz.f179) (fun hC => zdi.L hC (dn Q) (zbf [a, b]) h hR)
def zdj.I : Bx := ⟨[4], [], 9, []⟩
theorem zdj.L : LkT P zdj.I Tryz.f182 fun C Q s h => zdj.cps C N (s 0) (s 1) h Q := fun {C} hC Q s h hR => e1 hR
theorem zdj.imp : zdj.Imp (AC P) N := fun a b h Q hR => eF mixed (fn := Tryz.f182) (fun hC => zdj.L hC (dn Q) (zbf [a, b]) h hR)
def zc6.I : Bx := ⟨[4], [], 9, []⟩
theorem zc6.L : LkT P zc6.I Tryz.f186 fun C Q s h => zc6.cps C N (s 0) (s 1) h Q := fun {C} hC Q s h hR => e1 hR
theorem zc6.imp : zc6.Imp (AC P) N := fun a b h Q hR => eF mixed (fn := Tryz.f186) (fun hC => zc6.L hC (dn Q) (zbf [a, b]) h hR)
def zfz.I : Bx := ⟨[], [], 38, []⟩
theorem zfz.L : LkT P zfz.I Tryz.f198 fun C Q s h => zfz.cps C N (s 0) h Q := fun {C} hC Q s h hR => e1 hR
theorem zfz.imp : zfz.Imp (AC P) N := fun a h Q hR => eF mixed (fn := Tryz.f198) (fun hC => zfz.L hC (dn Q) (zbf [a]) h hR)
def zfc.I : Bx := ⟨[], [], 43, []⟩
theorem zfc.L : LkT P zfc.I Tryz.f199 fun C Q s h => zfc.cps C N (s 0) h Q := fun {C} hC Q s h hR => e1 hR
theorem zfc.imp : zfc.Imp (AC P) N := fun a h Q hR => eF mixed (fn := Tryz.f199) (fun hC => zfc.L hC (dn Q) (zbf [a]) h hR)
def zby.I : Bx := ⟨[], [], 27, []⟩
theorem zby.L : LkT P zby.I Tryz.f200 fun C Q s h => zby.cps C N (s 0) (s 1) h Q := fun {C} hC Q s h hR => eT hC (fun s h => ze (zby.l2 C N Q (s 0) (s 1)) [(.int .i64 0)] h) hR (fun s h hR => eT hC (fun s h => ze (zby.l2 C N Q (s 0) (s 1)) [(s 4)] h) hR (fun s h hR => eK (eL hC [0, 1] [4] (on2 (zby.l2 C N Q)) hR (fun Y1 s h hR => e1 hR))))
theorem zby.imp : zby.Imp (AC P) N := fun a b h Q hR => eF mixed (fn := Tryz.f200) (fun hC => zby.L hC (dn Q) (zbf [a, b]) h hR)
def zc8.I : Bx := ⟨[], [], 14, []⟩
theorem zc8.L : LkT P zc8.I Tryz.f201 fun C Q s h => zc8.cps C N (s 0) (s 1) h Q := fun {C} hC Q s h hR => e1 hR
theorem zc8.imp : zc8.Imp (AC P) N := fun a b h Q hR => eF mixed (fn := Tryz.f201) (fun hC => zc8.L hC (dn Q) (zbf [a, b]) h hR)
def zc0.I : Bx := ⟨[], [], 14, []⟩
theorem zc0.L : LkT P zc0.I Tryz.f202 fun C Q s h => zc0.cps C N (s 0) (s 1) h Q := fun {C} hC Q s h hR => e1 hR
theorem zc0.imp : zc0.Imp (AC P) N := fun a b h Q hR => eF mixed (fn := Tryz.f202) (fun hC => zc0.L hC (dn Q) (zbf [a, b]) h hR)
def zu.I : Bx := ⟨[], [], 9, []⟩
theorem zu.L : LkT P zu.I Tryz.f205 fun C Q s h => zu.cps C N (s 0) (s 1) h Q := fun {C} hC Q s h hR => e1 hR
theorem zu.imp : zu.Imp (AC P) N := fun a b h Q hR => eF mixed (fn := Tryz.f205) (fun hC => zu.L hC (dn Q) (zbf [a, b]) h hR)
def zbi.I : Bx := ⟨[], [], 31, []⟩
theorem zbi.L : LkT P zbi.I Tryz.f206 fun C Q s h => zbi.cps C N (s 0) h Q := fun {C} hC Q s h hR => eT hC (fun s h => zbi.k6 C N Q (s 0) h) hR (fun s h hR => eS hC (fun s h => Q (.tup [(.str []), (.bool false)]) h) (eT hC (fun s h => zbi.k6 C N Q (s 4) h) hR (fun s h hR => eK (eT hC (fun s h => B.cond (s 5) (Q (.tup [(.str [105, 108]), (.bool true)]) h) (B.pv (V.bin .eql (s 4) (.int .u8 2)) fun d => B.cond d (Q (.tup [(.str [105, 112]), (.bool true)]) h) (zbi.k5 C N Q (s 4) h))) hR (fun s h hR => eC 5 hR (fun hR => e1 hR) (fun hR => eT hC (fun s h => B.cond (s 7) (Q (.tup [(.str [105, 112]), (.bool true)]) h) (zbi.k5 C N Q (s 4) h)) hR (fun s h hR => eC 7 hR (fun hR => e1 hR) (fun hR => eT hC (fun s h => B.cond (s 9) (Q (.tup [(.str [105, 111]), (.bool true)]) h) (B.pv (V.bin .eql (s 4) (.int .u8 4)) fun a => B.cond a (Q (.tup [(.str [105, 113]), (.bool true)]) h) (zbi.k4 C N Q (s 4) h))) hR (fun s h hR => eC 9 hR (fun hR => e1 hR) (fun hR => eT hC (fun s h => B.cond (s 11) (Q (.tup [(.str [105, 113]), (.bool true)]) h) (zbi.k4 C N Q (s 4) h)) hR (fun s h hR => eC 11 hR (fun hR => e1 hR) (fun hR => eT hC (fun s h => B.cond (s 13) (Q (.tup [(.str [105, 113, 100]), (.bool true)]) h) (B.pv (V.bin .eql (s 4) (.int .u8 6)) fun b => B.cond b (Q (.tup [(.str [116, 100]), (.bool true)]) h) (zbi.k3 C N Q (s 4) h))) hR (fun s h hR => eC 13 hR (fun hR => e1 hR) (fun hR => eT hC (fun s h => B.cond (s 16) (Q (.tup [(.str [116, 100]), (.bool true)]) h) (zbi.k3 C N Q (s 4) h)) hR (fun s h hR => eC 16 hR (fun hR => e1 hR) (fun hR => eT hC (fun s h => B.cond (s 18) (Q (.tup [(.str [116]), (.bool true)]) h) (B.pv (V.bin .eql (s 4) (.int .u8 9)) fun c => B.cond c (Q (.tup [(.str [105, 113, 100, 114]), (.bool true)]) h) (zbi.k2 C N Q (s 4) h))) hR (fun s h hR => eC 18 hR (fun hR => e1 hR) (fun hR => eT hC (fun s h => B.cond (s 21) (Q (.tup [(.str [105, 113, 100, 114]), (.bool true)]) h) (zbi.k2 C N Q (s 4) h)) hR (fun s h hR => eC 21 hR (fun hR => e1 hR) (fun hR => eT hC (fun s h => zbi.k1 C N Q (s 4) (s 23) h) hR (fun s h hR => e1 hR)))))))))))))))))))) (fun s h hR => e1 hR))
theorem zbi.imp : zbi.Imp (AC P) N := fun a h Q hR => eF mixed (fn := Tryz.f206) (fun hC => zbi.L hC (dn Q) (zbf [a]) h hR)
def zdw.I : Bx := ⟨[], [], 17, []⟩
theorem zdw.L : LkT P zdw.I Tryz.f207 fun C Q s h => zdw.cps C N (s 0) (s 1) h Q := fun {C} hC Q s h hR => eT hC (fun s h => ze (zdw.l2 C N Q (s 0) (s 1)) [(.int .i64 0)] h) hR (fun s h hR => eS hC (fun s h => Q (.bool false) h) (eT hC (fun s h => ze (zdw.l2 C N Q (s 0) (s 1)) [(s 5)] h) hR (fun s h hR => eK (eL hC [0, 1] [5] (on2 (zdw.l2 C N Q)) hR (fun Y1 s h hR => e1 hR)))) (fun s h hR => e1 hR))
theorem zdw.imp : zdw.Imp (AC P) N := fun a b h Q hR => eF mixed (fn := Tryz.f207) (fun hC => zdw.L hC (dn Q) (zbf [a, b]) h hR)
def zbt.I : Bx := ⟨[], [], 58, [(9, pz [] 11)]⟩
theorem zbt.L : LkT P zbt.I Tryz.f208 fun C Q s h => zbt.cps C N (s 0) h Q := fun {C} hC Q s h hR => eT hC (fun s h => ze (zbt.l5 C N Q (s 0)) [(.int .i64 0)] h) hR (fun s h hR => eS hC (fun s h => zbt.k1 C N Q (s 0) h) (eT hC (fun s h => ze (zbt.l5 C N Q (s 0)) [(s 3)] h) hR (fun s h hR => eK (eL hC [0] [3] (on1 (zbt.l5 C N Q)) hR (fun Y1 s h hR => eT hC (fun s h => zbt.k4 C N Q Y1 (s 0) (s 3) h) hR (fun s h hR => eS hC (fun s h => B.pv (V.bin .add (s 3) (.int .i64 1)) fun a => Y1 [a] h) (eK (eT hC (fun s h => ze (zbt.l3 C N Q Y1 (s 0) (s 3)) [(.int .i64 0)] h) hR (fun s h hR => eT hC (fun s h => ze (zbt.l3 C N Q Y1 (s 0) (s 3)) [(s 4)] h) hR (fun s h hR => eK (eL hC [0, 3] [4] (on2 (zbt.l3 C N Q Y1)) hR (fun Y2 s h hR => e1 hR)))))) (fun s h hR => e1 hR)))))) (fun s h hR => e1 hR))
theorem zbt.imp : zbt.Imp (AC P) N := fun a h Q hR => eF mixed (fn := Tryz.f208) (fun hC => zbt.L hC (dn Q) (zbf [a]) h hR)
def zbq.I : Bx := ⟨[], [], 44, [(9, pz [] 9)]⟩
theorem zbq.L : LkT P zbq.I Tryz.f209 fun C Q s h => zbq.cps C N (s 0) (s 1) h Q := fun {C} hC Q s h hR => eT hC (fun s h => ze (zbq.l5 C N Q (s 0) (s 1)) [(.int .i64 0)] h) hR (fun s h hR => eS hC (fun s h => B.pv (V.zj (s 0)) fun a => B.pv (V.bin .leq a (.int .i64 4)) fun b => Q b h) (eT hC (fun s h => ze (zbq.l5 C N Q (s 0) (s 1)) [(s 5)] h) hR (fun s h hR => eK (eL hC [0, 1] [5] (on2 (zbq.l5 C N Q)) hR (fun Y1 s h hR => eT hC (fun s h => zbq.k3 C N Q Y1 (s 0) (s 1) (s 5) h) hR (fun s h hR => eS hC (fun s h => B.pv (V.bin .add (s 5) (.int .i64 1)) fun c => Y1 [c] h) (eK (eT hC (fun s h => ze (zbq.l2 C N Q Y1 (s 0) (s 1) (s 5)) [(.int .i64 0)] h) hR (fun s h hR => eT hC (fun s h => ze (zbq.l2 C N Q Y1 (s 0) (s 1) (s 5)) [(s 6)] h) hR (fun s h hR => eK (eL hC [0, 1, 5] [6] (on3 (zbq.l2 C N Q Y1)) hR (fun Y2 s h hR => e1 hR)))))) (fun s h hR => e1 hR)))))) (fun s h hR => e1 hR))
theorem zbq.imp : zbq.Imp (AC P) N := fun a b h Q hR => eF mixed (fn := Tryz.f209) (fun hC => zbq.L hC (dn Q) (zbf [a, b]) h hR)
def zc9.I : Bx := ⟨[3], [5, 9], 12, []⟩
theorem zc9.L : LkT P zc9.I Tryz.f213 fun C Q s h => zc9.cps C N (s 0) (s 1) h Q := fun {C} hC Q s h hR => e1 hR
theorem zc9.imp : zc9.Imp (AC P) N := fun a b h Q hR => eF mixed (fn := Tryz.f213) (fun hC => zc9.L hC (dn Q) (zbf [a, b]) h hR)
def zbc.I : Bx := ⟨[], [], 19, []⟩
theorem zbc.L : LkT P zbc.I Tryz.f216 fun C Q s h => zbc.cps C N (s 0) (s 1) h Q := fun {C} hC Q s h hR => eT hC (fun s h => B.pv (V.zj (s 0)) fun a => ze (zfa.l2 C (opsS 16 (.str []) 0) Q (s 0) (s 1) a) [(.int .i64 0)] h) hR (fun s h hR => eS hC (fun s h => Q (.int .i64 (-1)) h) (eT hC (fun s h => ze (zfa.l2 C (opsS 16 (.str []) 0) Q (s 0) (s 1) (s 7)) [(s 8)] h) hR (fun s h hR => eK (eL hC [0, 1, 7] [8] (on3 (zfa.l2 C (opsS 16 (.str []) 0) Q)) hR (fun Y1 s h hR => e1 hR)))) (fun s h hR => e1 hR))
theorem zbc.imp : zbc.Imp (AC P) N := fun a b h Q hR => eF mixed (fn := Tryz.f216) (fun hC => zbc.L hC (dn Q) (zbf [a, b]) h hR)
def zcz.I : Bx := ⟨[], [], 14, []⟩
theorem zcz.L : LkT P zcz.I Tryz.f217 fun C Q s h => zcz.cps C N (s 0) (s 1) h Q := fun {C} hC Q s h hR => e1 hR
theorem zcz.imp : zcz.Imp (AC P) N := fun a b h Q hR => eF mixed (fn := Tryz.f217) (fun hC => zcz.L hC (dn Q) (zbf [a, b]) h hR)
def zcy.I : Bx := ⟨[], [], 14, []⟩
theorem zcy.L : LkT P zcy.I Tryz.f218 fun C Q s h => zcy.cps C N (s 0) (s 1) h Q := fun {C} hC Q s h hR => e1 hR
theorem zcy.imp : zcy.Imp (AC P) N := fun a b h Q hR => eF mixed (fn := Tryz.f218) (fun hC => zcy.L hC (dn Q) (zbf [a, b]) h hR)
theorem zfk.L0 : F0 P Tryz.f116 zfk.I := fun hC Q s h hR => eF0 hC 5 3 6 9 11 14 hR
theorem zfk.imp0 : zfk.Imp0 (AC P) N := fun a h Q hR => eF mixed (fn := Tryz.f116) (fun hC => zfk.L0 hC (dn Q) (zbf [a]) h hR)
theorem zf6.L0 : F0 P Tryz.f117 zf6.I := fun hC Q s h hR => eF0 hC 5 3 6 9 11 14 hR
theorem zf6.imp0 : zf6.Imp0 (AC P) N := fun a h Q hR => eF mixed (fn := Tryz.f117) (fun hC => zf6.L0 hC (dn Q) (zbf [a]) h hR)
theorem zfr.L0 : F0 P Tryz.f118 zfr.I := fun hC Q s h hR => eF0 hC 5 3 6 9 11 14 hR
theorem zfr.imp0 : zfr.Imp0 (AC P) N := fun a h Q hR => eF mixed (fn := Tryz.f118) (fun hC => zfr.L0 hC (dn Q) (zbf [a]) h hR)
theorem zft.L0 : F0 P Tryz.f120 zft.I := fun hC Q s h hR => eF0 hC 5 3 6 9 11 14 hR
theorem zft.imp0 : zft.Imp0 (AC P) N := fun a h Q hR => eF mixed (fn := Tryz.f120) (fun hC => zft.L0 hC (dn Q) (zbf [a]) h hR)
theorem ze0.L0 : F0 P Tryz.f121 ze0.I := fun hC Q s h hR => eF0 hC 5 3 6 9 11 14 hR
theorem ze0.imp0 : ze0.Imp0 (AC P) N := fun a h Q hR => eF mixed (fn := Tryz.f121) (fun hC => ze0.L0 hC (dn Q) (zbf [a]) h hR)
theorem zfl.L0 : F0 P Tryz.f123 zfl.I := fun hC Q s h hR => eF0 hC 5 3 6 9 11 14 hR
theorem zfl.imp0 : zfl.Imp0 (AC P) N := fun a h Q hR => eF mixed (fn := Tryz.f123) (fun hC => zfl.L0 hC (dn Q) (zbf [a]) h hR)
theorem zf4.L0 : F0 P Tryz.f124 zf4.I := fun hC Q s h hR => eF0 hC 5 3 6 9 11 14 hR
theorem zf4.imp0 : zf4.Imp0 (AC P) N := fun a h Q hR => eF mixed (fn := Tryz.f124) (fun hC => zf4.L0 hC (dn Q) (zbf [a]) h hR)
theorem zf7.L0 : F0 P Tryz.f128 zf7.I := fun hC Q s h hR => eF0 hC 5 3 6 9 11 14 hR
theorem zf7.imp0 : zf7.Imp0 (AC P) N := fun a h Q hR => eF mixed (fn := Tryz.f128) (fun hC => zf7.L0 hC (dn Q) (zbf [a]) h hR)
theorem zfn.L0 : F0 P Tryz.f129 zfn.I := fun hC Q s h hR => eF0 hC 5 3 6 9 11 14 hR
theorem zfn.imp0 : zfn.Imp0 (AC P) N := fun a h Q hR => eF mixed (fn := Tryz.f129) (fun hC => zfn.L0 hC (dn Q) (zbf [a]) h hR)
theorem zf5.L0 : F0 P Tryz.f131 zf5.I := fun hC Q s h hR => eF0 hC 5 3 6 9 11 14 hR
theorem zf5.imp0 : zf5.Imp0 (AC P) N := fun a h Q hR => eF mixed (fn := Tryz.f131) (fun hC => zf5.L0 hC (dn Q) (zbf [a]) h hR)
theorem zfm.L0 : F0 P Tryz.f132 zfm.I := fun hC Q s h hR => eF0 hC 5 3 6 9 11 14 hR
theorem zfm.imp0 : zfm.Imp0 (AC P) N := fun a h Q hR => eF mixed (fn := Tryz.f132) (fun hC => zfm.L0 hC (dn Q) (zbf [a]) h hR)
theorem zfs.L0 : F0 P Tryz.f133 zfs.I := fun hC Q s h hR => eF0 hC 5 3 6 9 11 14 hR
theorem zfs.imp0 : zfs.Imp0 (AC P) N := fun a h Q hR => eF mixed (fn := Tryz.f133) (fun hC => zfs.L0 hC (dn Q) (zbf [a]) h hR)
theorem ze2.L0 : F0 P Tryz.f134 ze2.I := fun hC Q s h hR => eF0 hC 5 3 6 9 11 14 hR
theorem ze2.imp0 : ze2.Imp0 (AC P) N := fun a h Q hR => eF mixed (fn := Tryz.f134) (fun hC => ze2.L0 hC (dn Q) (zbf [a]) h hR)
theorem zfq.L0 : F0 P Tryz.f135 zfq.I := fun hC Q s h hR => eF0 hC 5 3 6 9 11 14 hR
theorem zfq.imp0 : zfq.Imp0 (AC P) N := fun a h Q hR => eF mixed (fn := Tryz.f135) (fun hC => zfq.L0 hC (dn Q) (zbf [a]) h hR)
theorem ze1.L0 : F0 P Tryz.f136 ze1.I := fun hC Q s h hR => eF0 hC 5 3 6 9 11 14 hR
theorem ze1.imp0 : ze1.Imp0 (AC P) N := fun a h Q hR => eF mixed (fn := Tryz.f136) (fun hC => ze1.L0 hC (dn Q) (zbf [a]) h hR)
theorem zfp.L0 : F0 P Tryz.f137 zfp.I := fun hC Q s h hR => eF0 hC 5 3 6 9 11 14 hR
theorem zfp.imp0 : zfp.Imp0 (AC P) N := fun a h Q hR => eF mixed (fn := Tryz.f137) (fun hC => zfp.L0 hC (dn Q) (zbf [a]) h hR)
theorem zfo.L0 : F0 P Tryz.f138 zfo.I := fun hC Q s h hR => eF0 hC 5 3 6 9 11 14 hR
theorem zfo.imp0 : zfo.Imp0 (AC P) N := fun a h Q hR => eF mixed (fn := Tryz.f138) (fun hC => zfo.L0 hC (dn Q) (zbf [a]) h hR)
end Go.Ab.S16z
