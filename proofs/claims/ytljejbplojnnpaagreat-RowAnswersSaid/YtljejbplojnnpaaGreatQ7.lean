/- What is proved: a part of the way to the statement: Rrow. No conditions. -/
import Derived.Test.YtljejbplojnnpaaGreatQ3
import Derived.Test.YtljejbplojnnpaaGreatQ6
import Derived.Test.YtljejbplojnnpaaGreatRows
import Derived.Lib.Bytealg
set_option linter.unusedVariables false
set_option linter.unusedSimpArgs false
namespace Go.Ab
@[simp] def zw.k1 (C : CSem) (N : zN) (Q : zQ) (Y1 : zL) (v3 v4 c d b : AVal) (h : za) : Prop :=
 B.pv (V.bin .lss b d) fun e =>
  B.cond e
  (B.pv (V.idxS 8 c b) fun f =>
  B.ldn h f 8 fun g =>
  B.pv (V.setN 0 8 g (.agg [.int .i64 0, .str [], .int .i64 0, .int .i64 0, .int .i64 0, .int .u8 0, .int .i64 0, .str []])) fun a =>
  B.al a (B.pv (V.zf 0 a) fun i =>
  B.al a (B.pv (V.zf 1 a) fun j =>
  B.al a (B.pv (V.zf 2 a) fun k =>
  B.al a (B.pv (V.zf 3 a) fun l =>
  B.al a (B.pv (V.zf 4 a) fun m =>
  B.pv (V.toInt .u8 m) fun n =>
  B.al a (B.pv (V.zf 5 a) fun o =>
  B.al a (B.pv (V.zf 6 a) fun p =>
  B.pv (V.bin .add p (.int .i64 1)) fun q =>
  B.al a (B.pv (V.zf 7 a) fun r =>
  B.call C (N 423) [i, (.int .i64 8)] h fun s h =>
  B.newO h (zc0 [(0, none, (.int .u8 111))] (repL 1 [.int .u8 0])) fun t h =>
  B.conv h (.sl t 0 0 1 1 1) fun u =>
  B.newO h (zc0 [(0, none, u), (1, none, s)] (repL 2 [.nils])) fun v h =>
  B.call C (N 424) [(.sl v 0 0 2 1 2)] h fun w h =>
  B.call C (N 51) [j] h fun x h =>
  B.call C (N 423) [k, (.int .i64 4)] h fun y h =>
  B.call C (N 423) [l, (.int .i64 2)] h fun z h =>
  B.call C (N 423) [q, (.int .i64 2)] h fun aa h =>
  B.call C (N 51) [r] h fun ab h =>
  B.newO h (zc0 [(0, none, n), (1, none, o)] (repL 2 [.int .u8 0])) fun ac h =>
  B.newO h (zc0 [(0, none, x), (1, none, y), (2, none, z), (3, none, (.sl ac 0 0 2 1 2)), (4, none, aa), (5, none, ab)] (repL 6 [.nils])) fun ad h =>
  B.zkp h C v4 [w, (.sl ad 0 0 6 1 6)] fun ai h =>
  B.pv (V.bin .add b (.int .i64 1)) fun ae =>
  Y1 [ae] h)))))))))
  (B.ld h v3 fun af =>
  Q af h)
@[simp] def zw.l2 (C : CSem) (N : zN) (Q : zQ) (d e a b : AVal) : zG
 | [c], h, Y1 => zw.k1 C N Q Y1 d e a b c h
 | _, _, _ => False
@[simp] def zw.k3 (C : CSem) (N : zN) (Q : zQ) (Y2 : zL) (y u t v w b z a : AVal) (h : za) : Prop :=
 B.al a (B.pv (V.zf 0 a) fun c =>
  B.al a (B.pv (V.zf 1 a) fun d =>
  B.al a (B.al a (B.pv (V.zf 2 a) fun e =>
  B.al a (B.al a (B.pv (V.zf 3 a) fun f =>
  B.al a (B.pv (V.zf 4 a) fun g =>
  B.call C (N 423) [c, (.int .i64 8)] h fun i h =>
  B.newO h (zc0 [(0, none, (.int .u8 108))] (repL 1 [.int .u8 0])) fun j h =>
  B.conv h (.sl j 0 0 1 1 1) fun k =>
  B.newO h (zc0 [(0, none, k), (1, none, i)] (repL 2 [.nils])) fun l h =>
  B.call C (N 424) [(.sl l 0 0 2 1 2)] h fun m h =>
  B.call C (N 51) [d] h fun n h =>
  B.call C (N 423) [e, (.int .i64 2)] h fun o h =>
  B.call C (N 423) [f, (.int .i64 2)] h fun p h =>
  B.call C (N 423) [g, (.int .i64 4)] h fun q h =>
  B.newO h (zc0 [(0, none, n), (1, none, o), (2, none, p), (3, none, q), (4, none, t)] (repL 5 [.nils])) fun r h =>
  B.zkp h C u [m, (.sl r 0 0 5 1 5)] fun x h =>
  B.pv (V.bin .add b (.int .i64 1)) fun s =>
  Y2 [s] h)))))))
@[simp] def zw.k4 (C : CSem) (N : zN) (Q : zQ) (Y2 : zL) (i j b c d e k a : AVal) (h : za) : Prop :=
 B.al a (B.pv (V.zf 5 a) fun f =>
  B.cond f
  (B.pv (V.idxS 1 b (.int .i64 0)) fun g =>
  B.st h g (.int .u8 1) fun h =>
  zw.k3 C N Q Y2 i j b c d e k a h)
  (zw.k3 C N Q Y2 i j b c d e k a h))
@[simp] def zw.k5 (C : CSem) (N : zN) (Q : zQ) (Y2 : zL) (i j a c b k : AVal) (h : za) : Prop :=
 B.pv (V.idxS 6 a b) fun d =>
  B.ldn h d 6 fun e =>
  B.pv (V.setN 0 6 e (.agg [.int .i64 0, .str [], .int .i64 0, .int .i64 0, .int .i64 0, .bool false])) fun g =>
  B.newO h (zc0 [(0, none, (.int .u8 0))] (repL 1 [.int .u8 0])) fun f h =>
  zw.k4 C N Q Y2 i j (.sl f 0 0 1 1 1) a c b k g h
@[simp] def zw.k6 (C : CSem) (N : zN) (Q : zQ) (Y2 : zL) (i j b c d e f : AVal) (h : za) : Prop :=
 B.cond e
  (zw.k5 C N Q Y2 i j b c d f h)
  (B.al f (B.pv (V.zf 5 f) fun a =>
  B.pv (V.zj a) fun g =>
  zd (zw.l2 C N Q i j a g) [(.int .i64 0)] h))
@[simp] def zw.l7 (C : CSem) (N : zN) (Q : zQ) (e f c a g : AVal) : zG
 | [b], h, Y2 => B.pv (V.bin .lss b a) fun d =>
  zw.k6 C N Q Y2 e f c a b d g h
 | _, _, _ => False
@[simp] def zw.k8 (C : CSem) (N : zN) (Q : zQ) (Y3 : zL) (m g i k l e n f : AVal) (h : za) : Prop :=
 B.al f (B.pv (V.zf 0 f) fun a =>
  B.pv (V.bin .add (.str [105]) a) fun b =>
  B.zhf h b fun c h =>
  B.zkp h C g [c, i] fun j h =>
  B.pv (V.bin .add e (.int .i64 1)) fun d =>
  Y3 [d] h)
@[simp] def zw.k9 (C : CSem) (N : zN) (Q : zQ) (Y3 : zL) (Y4 : zL) (p q b c d e f g a r s : AVal) (h : za) : Prop :=
 B.pv (V.bin .lss a g) fun i =>
  B.cond i
  (B.pv (V.idxS 1 f a) fun j =>
  B.ld h j fun k =>
  B.call C (N 51) [k] h fun l h =>
  B.newO h (zc0 [(0, none, l)] (repL 1 [.nils])) fun m h =>
  B.appW h 1 24 b (.sl m 0 0 1 1 1) fun n h =>
  B.pv (V.bin .add a (.int .i64 1)) fun o =>
  Y4 [n, o] h)
  (zw.k8 C N Q Y3 p q b c d e r s h)
@[simp] def zw.l10 (C : CSem) (N : zN) (Q : zQ) (Y3 : zL) (g i a b c d e j k : AVal) : zG
 | [l, f], h, Y4 => zw.k9 C N Q Y3 Y4 g i l a b c d e f j k h
 | _, _, _ => False
@[simp] def zw.k11 (C : CSem) (N : zN) (Q : zQ) (Y3 : zL) (g i j c d e k b : AVal) (h : za) : Prop :=
 B.al b (B.pv (V.zf 3 b) fun a =>
  B.pv (V.zj a) fun f =>
  zd (zw.l10 C N Q Y3 g i c d e a f k b) [j, (.int .i64 0)] h)
@[simp] def zw.k12 (C : CSem) (N : zN) (Q : zQ) (Y3 : zL) (l m n b c d o a : AVal) (h : za) : Prop :=
 B.al a (B.pv (V.zf 3 a) fun e =>
  B.pv (V.zj e) fun f =>
  B.pv (V.toInt .u8 f) fun g =>
  B.newO h (zc0 [(0, none, g)] (repL 1 [.int .u8 0])) fun i h =>
  B.newO h (zc0 [(0, none, (.sl i 0 0 1 1 1))] (repL 1 [.nils])) fun j h =>
  B.appW h 1 24 n (.sl j 0 0 1 1 1) fun k h =>
  zw.k11 C N Q Y3 l m k b c d o a h)
@[simp] def zw.k13 (C : CSem) (N : zN) (Q : zQ) (Y3 : zL) (Y5 : zL) (t u c d e f g i a v w : AVal) (h : za) : Prop :=
 B.pv (V.bin .lss a i) fun j =>
  B.cond j
  (B.pv (V.idxS 2 g a) fun k =>
  B.ldn h k 2 fun l =>
  B.pv (V.setN 0 2 l (.agg [.str [], .int .i64 0])) fun b =>
  B.al b (B.pv (V.zf 0 b) fun m =>
  B.al b (B.pv (V.zf 1 b) fun n =>
  B.call C (N 51) [m] h fun o h =>
  B.call C (N 423) [n, (.int .i64 4)] h fun p h =>
  B.newO h (zc0 [(0, none, o), (1, none, p)] (repL 2 [.nils])) fun q h =>
  B.appW h 1 24 c (.sl q 0 0 2 1 2) fun r h =>
  B.pv (V.bin .add a (.int .i64 1)) fun s =>
  Y5 [r, s] h)))
  (zw.k12 C N Q Y3 t u c d e f v w h)
@[simp] def zw.l14 (C : CSem) (N : zN) (Q : zQ) (Y3 : zL) (g i a b c d e j k : AVal) : zG
 | [l, f], h, Y5 => zw.k13 C N Q Y3 Y5 g i l a b c d e f j k h
 | _, _, _ => False
@[simp] def zw.k15 (C : CSem) (N : zN) (Q : zQ) (Y3 : zL) (g i j c d e k b : AVal) (h : za) : Prop :=
 B.al b (B.pv (V.zf 2 b) fun a =>
  B.pv (V.zj a) fun f =>
  zd (zw.l14 C N Q Y3 g i c d e a f k b) [j, (.int .i64 0)] h)
@[simp] def zw.k16 (C : CSem) (N : zN) (Q : zQ) (Y3 : zL) (m n b c d o a : AVal) (h : za) : Prop :=
 B.al a (B.pv (V.zf 1 a) fun e =>
  B.al a (B.pv (V.zf 2 a) fun f =>
  B.pv (V.zj f) fun g =>
  B.pv (V.toInt .u8 g) fun i =>
  B.call C (N 423) [e, (.int .i64 2)] h fun j h =>
  B.newO h (zc0 [(0, none, i)] (repL 1 [.int .u8 0])) fun k h =>
  B.newO h (zc0 [(0, none, j), (1, none, (.sl k 0 0 1 1 1))] (repL 2 [.nils])) fun l h =>
  zw.k15 C N Q Y3 m n (.sl l 0 0 2 1 2) b c d o a h))
@[simp] def zw.k17 (C : CSem) (N : zN) (Q : zQ) (Y3 : zL) (f g a c b i : AVal) (h : za) : Prop :=
 B.pv (V.idxS 4 a b) fun d =>
  B.ldn h d 4 fun e =>
  B.pv (V.setN 0 4 e (.agg [.str [], .int .i64 0, .nils, .nils])) fun j =>
  zw.k16 C N Q Y3 f g a c b i j h
@[simp] def zw.k18 (C : CSem) (N : zN) (Q : zQ) (Y3 : zL) (d e f g i j b : AVal) (h : za) : Prop :=
 B.cond j
  (zw.k17 C N Q Y3 d e f g i b h)
  (B.al b (B.pv (V.zf 4 b) fun a =>
  B.pv (V.zj a) fun c =>
  zd (zw.l7 C N Q d e a c b) [(.int .i64 0)] h))
@[simp] def zw.l19 (C : CSem) (N : zN) (Q : zQ) (e f c a g : AVal) : zG
 | [b], h, Y3 => B.pv (V.bin .lss b a) fun d =>
  zw.k18 C N Q Y3 e f c a b d g h
 | _, _, _ => False
@[simp] def zw.k20 (C : CSem) (N : zN) (Q : zQ) (k c a : AVal) (h : za) : Prop :=
 B.newO h (zc0 [(0, none, (.int .u8 42)), (1, none, (.int .u8 108)), (2, none, (.int .u8 111)), (3, none, (.int .u8 116))] (repL 4 [.int .u8 0])) fun d h =>
  B.conv h (.sl d 0 0 4 1 4) fun e =>
  B.al a (B.pv (V.zf 1 a) fun f =>
  B.call C (N 423) [f, (.int .i64 8)] h fun g h =>
  B.newO h (zc0 [(0, none, g)] (repL 1 [.nils])) fun i h =>
  B.zkp h C c [e, (.sl i 0 0 1 1 1)] fun l h =>
  B.al a (B.pv (V.zf 3 a) fun b =>
  B.pv (V.zj b) fun j =>
  zd (zw.l19 C N Q k c b j a) [(.int .i64 0)] h))
@[simp] def zw.k21 (C : CSem) (N : zN) (Q : zQ) (i b a : AVal) (h : za) : Prop :=
 B.newO h (zc0 [(0, none, (.int .u8 42)), (1, none, (.int .u8 108)), (2, none, (.int .u8 105)), (3, none, (.int .u8 110)), (4, none, (.int .u8 101))] (repL 5 [.int .u8 0])) fun c h =>
  B.conv h (.sl c 0 0 5 1 5) fun d =>
  B.al a (B.pv (V.zf 2 a) fun e =>
  B.call C (N 423) [e, (.int .i64 8)] h fun f h =>
  B.newO h (zc0 [(0, none, f)] (repL 1 [.nils])) fun g h =>
  B.zkp h C b [d, (.sl g 0 0 1 1 1)] fun j h =>
  zw.k20 C N Q i b a h)
@[simp] def zw.k22 (C : CSem) (N : zN) (Q : zQ) (i b a : AVal) (h : za) : Prop :=
 B.newO h (zc0 [(0, none, (.int .u8 42)), (1, none, (.int .u8 100)), (2, none, (.int .u8 97)), (3, none, (.int .u8 121))] (repL 4 [.int .u8 0])) fun c h =>
  B.conv h (.sl c 0 0 4 1 4) fun d =>
  B.al a (B.pv (V.zf 0 a) fun e =>
  B.call C (N 423) [e, (.int .i64 2)] h fun f h =>
  B.newO h (zc0 [(0, none, f)] (repL 1 [.nils])) fun g h =>
  B.zkp h C b [d, (.sl g 0 0 1 1 1)] fun j h =>
  zw.k21 C N Q i b a h)
@[simp] def zw.k23 (C : CSem) (N : zN) (Q : zQ) (a : AVal) (h : za) : Prop :=
 B.pv (V.zbv 0 6 a) fun b =>
  B.call C (N 426) [b] h fun c h =>
  B.pv (V.un .not c) fun d =>
  B.cond d
  (Q .nils h)
  (B.newO h (some [.nils]) fun e h =>
  zw.k22 C N Q (.ptr e 0 0) (.fn (N 425) [] [(.ptr e 0 0)]) a h)
@[simp] def zw.cps (C : CSem) (N : zN) (a : AVal) (h : za) (Q : zQ) : Prop :=
 B.pv (A.boxN 6 a) fun b =>
  zw.k23 C N Q b h
def zw.Imp (C : CSem) (N : zN) : Prop := im1 C (N 412) (zw.cps C N)
@[simp] def zbc.k1 (C : CSem) (N : zN) (Q : zQ) (m b n : AVal) (h : za) : Prop :=
 B.pv (V.zbv 0 6 n) fun c =>
  B.call C (N 412) [c] h fun d h =>
  B.call C (N 431) [d, m, (.fn (N 430) [] [])] h fun e h =>
  B.pv (V.un .not e) fun a =>
  B.gd h a false (fun K => K m h) fun f h =>
  B.gd h a false (fun K => B.pv (V.zj f) fun v => K v h) fun g h =>
  B.gd h a false (fun K => B.pv (V.bin .eql g (.int .i64 0)) fun v => K v h) fun i h =>
  B.pick a (.bool true) i fun j =>
  B.cond j
  (B.pv (A.bld [] [.int .i64 0, .int .i64 0, .int .i64 0, .nils, .nils, .nils]) fun k =>
  B.pv (V.setN 0 6 k b) fun b =>
  B.pv (oneOf (ze4 (V.zbv 0 6 b) (ze4 (some (.int .i64 4)) (some [])))) fun v => Q v h)
  (B.pv (V.zbv 0 6 n) fun l =>
  B.pv (V.setN 0 6 l b) fun b =>
  B.pv (oneOf (ze4 (V.zbv 0 6 b) (ze4 (some (.int .i64 0)) (some [])))) fun v => Q v h)
@[simp] def zbc.k2 (C : CSem) (N : zN) (Q : zQ) (Y1 : zL) (t n o p r s m b q : AVal) (h : za) : Prop :=
 B.nilCheck o fun c =>
  B.pv (V.fieldAddr 1 c) fun d =>
  B.ld h d fun a =>
  B.gd h a false (fun K => K p h) fun e h =>
  B.gd h a false (fun K => B.nilCheck e fun v => K v h) fun f h =>
  B.gd h a false (fun K => B.pv (V.fieldAddr 1 f) fun v => K v h) fun g h =>
  B.gd h a false (fun K => B.ld h g fun v => K v h) fun i h =>
  B.pick a (.bool true) i fun j =>
  B.cond j
  (B.pv (A.bld [] [.int .i64 0, .int .i64 0, .int .i64 0, .nils, .nils, .nils]) fun k =>
  B.pv (V.setN 0 6 k b) fun b =>
  B.pv (oneOf (ze4 (V.zbv 0 6 b) (ze4 (some (.int .i64 4)) (some [])))) fun v => Q v h)
  (B.pv (V.bin .add m (.int .i64 1)) fun l =>
  Y1 [n, l, b, q] h)
@[simp] def zbc.k3 (C : CSem) (N : zN) (Q : zQ) (Y1 : zL) (i j b g c d e k a x : AVal) (h : za) : Prop :=
 B.al x (B.pv (V.zf 0 x) fun y =>
  B.zd1 h y fun f =>
  B.pv (V.bin .eql f (.str [42, 100, 97, 121])) fun z =>
  B.cond z
  (B.call C (N 432) [b, (.int .i64 2)] h fun aa h =>
  B.al a (B.pv (V.setF 0 aa a) fun a =>
  zbc.k2 C N Q Y1 i j b g c d e k a h))
  (B.pv (V.bin .eql f (.str [42, 108, 111, 116])) fun ab =>
  B.cond ab
  (B.call C (N 432) [b, (.int .i64 8)] h fun ac h =>
  B.al a (B.pv (V.setF 1 ac a) fun a =>
  zbc.k2 C N Q Y1 i j b g c d e k a h))
  (B.pv (V.bin .eql f (.str [42, 108, 105, 110, 101])) fun ad =>
  B.cond ad
  (B.call C (N 432) [b, (.int .i64 8)] h fun ae h =>
  B.al a (B.pv (V.setF 2 ae a) fun a =>
  zbc.k2 C N Q Y1 i j b g c d e k a h))
  (B.pv (V.zkn f (.int .i64 0)) fun af =>
  B.pv (V.bin .eql af (.int .u8 105)) fun ag =>
  B.cond ag
  (B.al a (B.pv (V.zf 3 a) fun ah =>
  B.pv (V.zvk f (some (.int .i64 1)) none) fun ai =>
  B.call C (N 433) [b, ai] h fun aj h =>
  B.newO h (zc0 [(0, some 4, aj)] (repL 1 [.str [], .int .i64 0, .nils, .nils])) fun ak h =>
  B.appW h 4 72 ah (.sl ak 0 0 1 4 1) fun am h =>
  B.al a (B.pv (V.setF 3 am a) fun a =>
  zbc.k2 C N Q Y1 i j b g c d e k a h)))
  (B.pv (V.zkn f (.int .i64 0)) fun an =>
  B.pv (V.bin .eql an (.int .u8 108)) fun ao =>
  B.cond ao
  (B.al a (B.pv (V.zf 4 a) fun l =>
  B.call C (N 432) [g, (.int .i64 8)] h fun m h =>
  B.call C (N 434) [b, m] h fun n h =>
  B.newO h (zc0 [(0, some 6, n)] (repL 1 [.int .i64 0, .str [], .int .i64 0, .int .i64 0, .int .i64 0, .bool false])) fun o h =>
  B.appW h 6 56 l (.sl o 0 0 1 6 1) fun p h =>
  B.al a (B.pv (V.setF 4 p a) fun a =>
  zbc.k2 C N Q Y1 i j b g c d e k a h)))
  (B.pv (V.zkn f (.int .i64 0)) fun q =>
  B.pv (V.bin .eql q (.int .u8 111)) fun r =>
  B.cond r
  (B.al a (B.pv (V.zf 5 a) fun s =>
  B.call C (N 432) [g, (.int .i64 8)] h fun t h =>
  B.call C (N 435) [b, t] h fun u h =>
  B.newO h (zc0 [(0, some 8, u)] (repL 1 [.int .i64 0, .str [], .int .i64 0, .int .i64 0, .int .i64 0, .int .u8 0, .int .i64 0, .str []])) fun v h =>
  B.appW h 8 80 s (.sl v 0 0 1 8 1) fun w h =>
  B.al a (B.pv (V.setF 5 w a) fun a =>
  zbc.k2 C N Q Y1 i j b g c d e k a h)))
  (B.nilCheck b fun ap =>
  B.pv (V.fieldAddr 1 ap) fun aq =>
  B.st h aq (.bool true) fun h =>
  zbc.k2 C N Q Y1 i j b g c d e k a h)))))))
@[simp] def zbc.k4 (C : CSem) (N : zN) (Q : zQ) (Y1 : zL) (m n b c d o p a : AVal) (h : za) : Prop :=
 B.al a (B.pv (V.zf 1 a) fun e =>
  B.pv (A.bld [(0, none, e)] [.nils, .bool false]) fun f =>
  B.al a (B.pv (V.zf 0 a) fun g =>
  B.pv (V.zf1 1 g (some (.int .i64 1)) none) fun i =>
  B.pv (A.bld [(0, none, i)] [.nils, .bool false]) fun j =>
  B.newO h (A.zjr 2 f) fun k h =>
  B.newO h (A.zjr 2 j) fun l h =>
  zbc.k3 C N Q Y1 m n (.ptr k 0 0) (.ptr l 0 0) b c d o p a h))
@[simp] def zbc.k5 (C : CSem) (N : zN) (Q : zQ) (Y1 : zL) (i j a b c k l d : AVal) (h : za) : Prop :=
 B.pv (V.zbv 0 2 d) fun e =>
  B.newO h (zc0 [(0, some 2, e)] (repL 1 [.nils, .nils])) fun f h =>
  B.appW h 2 48 j (.sl f 0 0 1 2 1) fun g h =>
  zbc.k4 C N Q Y1 i g a b c k l d h
@[simp] def zbc.k6 (C : CSem) (N : zN) (Q : zQ) (Y1 : zL) (n d e f a g i b : AVal) (h : za) : Prop :=
 B.al b (B.pv (V.zf 0 b) fun j =>
  B.pv (V.idxS 1 j (.int .i64 0)) fun k =>
  B.ld h k fun l =>
  B.pv (V.bin .eql l (.int .u8 97)) fun m =>
  B.cond m
  (B.pv (V.bin .add a (.int .i64 1)) fun c =>
  Y1 [d, c, g, i] h)
  (zbc.k5 C N Q Y1 n d e f a g i b h))
@[simp] def zbc.k7 (C : CSem) (N : zN) (Q : zQ) (Y1 : zL) (e z f g i j d c4 c : AVal) (h : za) : Prop :=
 B.pv (V.bin .gtr f (.int .i64 0)) fun a =>
  B.gd h a true (fun K => K e h) fun k h =>
  B.gd h a true (fun K => K f h) fun l h =>
  B.gd h a true (fun K => B.pv (V.bin .sub l (.int .i64 1)) fun v => K v h) fun m h =>
  B.gd h a true (fun K => B.pv (V.idxS 2 k m) fun v => K v h) fun n h =>
  B.gd h a true (fun K => B.pv (V.fieldAddr 0 n) fun v => K v h) fun o h =>
  B.gd h a true (fun K => B.ld h o fun v => K v h) fun p h =>
  B.al c (B.gd h a true (fun K => K .undef h) fun _ h =>
  B.gd h a true (fun K => B.pv (V.zf 0 c) fun v => K v h) fun q h =>
  B.gd h a true (fun K => B.call C (N 274) [p, q] h K) fun r h =>
  B.gd h a true (fun K => B.pv (V.bin .geq r (.int .i64 0)) fun v => K v h) fun s h =>
  B.pick a s (.bool false) fun b =>
  B.al c (B.gd h b false (fun K => K .undef h) fun _ h =>
  B.gd h b false (fun K => B.pv (V.zf 0 c) fun v => K v h) fun t h =>
  B.gd h b false (fun K => B.pv (V.zj t) fun v => K v h) fun u h =>
  B.gd h b false (fun K => B.pv (V.bin .eql u (.int .i64 0)) fun v => K v h) fun w h =>
  B.pick b (.bool true) w fun x =>
  B.cond x
  (B.pv (A.bld [] [.int .i64 0, .int .i64 0, .int .i64 0, .nils, .nils, .nils]) fun y =>
  B.pv (V.setN 0 6 y d) fun d =>
  B.pv (oneOf (ze4 (V.zbv 0 6 d) (ze4 (some (.int .i64 4)) (some [])))) fun v => Q v h)
  (zbc.k6 C N Q Y1 e z g i j d c4 c h)))
@[simp] def zbc.k8 (C : CSem) (N : zN) (Q : zQ) (Y1 : zL) (f g b c a i j : AVal) (h : za) : Prop :=
 B.pv (V.idxS 2 b a) fun d =>
  B.ldn h d 2 fun e =>
  B.pv (V.setN 0 2 e (.agg [.nils, .nils])) fun k =>
  zbc.k7 C N Q Y1 f g a b c a i j k h
@[simp] def zbc.l9 (C : CSem) (N : zN) (Q : zQ) (i c a : AVal) : zG
 | [d, b, e, f], h, Y1 => B.pv (V.bin .lss b a) fun g =>
  B.cond g
  (zbc.k8 C N Q Y1 i d c a b e f h)
  (zbc.k1 C N Q d e f h)
 | _, _, _ => False
@[simp] def zbc.k10 (C : CSem) (N : zN) (Q : zQ) (a c : AVal) (h : za) : Prop :=
 B.pv (V.zj a) fun b =>
  zd (zbc.l9 C N Q a a b) [.nils, (.int .i64 0), c, (.agg [.int .i64 0, .int .i64 0, .int .i64 0, .nils, .nils, .nils])] h
@[simp] def zbc.cps (C : CSem) (N : zN) (a : AVal) (h : za) (Q : zQ) : Prop :=
 zbc.k10 C N Q a (.agg [.int .i64 0, .int .i64 0, .int .i64 0, .nils, .nils, .nils]) h
def zbc.Imp (C : CSem) (N : zN) : Prop := im1 C (N 413) (zbc.cps C N)
@[simp] def zbg.k1 (C : CSem) (N : zN) (Q : zQ) (e f b : AVal) (h : za) : Prop :=
 B.call C (N 38) [e] h fun c h =>
  B.pv (V.ext 0 c) fun g =>
  B.pv (V.ext 1 c) fun i =>
  B.pv (V.ext 2 c) fun j =>
  B.pv (V.setN 0 7 g (.agg [.int .i64 0, .int .i64 0, .int .i64 0, .str [], .int .u8 0, .nils, .nils])) fun k =>
  B.pv (V.un .not f) fun d =>
  B.gd h d false (fun K => K j h) fun l h =>
  B.gd h d false (fun K => B.pv (V.bin .neq l (.int .i64 0)) fun v => K v h) fun m h =>
  B.pick d (.bool true) m fun a =>
  B.gd h a false (fun K => K i h) fun n h =>
  B.gd h a false (fun K => K e h) fun o h =>
  B.gd h a false (fun K => B.pv (V.zj o) fun v => K v h) fun p h =>
  B.gd h a false (fun K => B.pv (V.bin .neq n p) fun v => K v h) fun q h =>
  B.pick a (.bool true) q fun r =>
  B.cond r
  (B.pv (A.bld [] [.int .i64 0, .int .i64 0, .int .i64 0, .str [], .int .u8 0, .nils, .nils]) fun s =>
  B.pv (V.setN 0 7 s b) fun b =>
  B.pv (oneOf (ze4 (V.zbv 0 7 b) (ze4 (some (.bool false)) (some [])))) fun v => Q v h)
  (B.pv (V.zbv 0 7 k) fun t =>
  B.pv (V.setN 0 7 t b) fun b =>
  B.pv (oneOf (ze4 (V.zbv 0 7 b) (ze4 (some (.bool true)) (some [])))) fun v => Q v h)
@[simp] def zbg.k2 (C : CSem) (N : zN) (Q : zQ) (Y1 : zL) (v0 v1 l k g b m n i c6 : AVal) (h : za) : Prop :=
 B.pv (V.bin .lss i n) fun o =>
  B.cond o
  (B.pv (V.idxS 2 m i) fun p =>
  B.ldn h p 2 fun q =>
  B.pv (V.setN 0 2 q (.agg [.nils, .nils])) fun a =>
  B.al a (B.pv (V.zf 0 a) fun r =>
  B.pv (V.zj r) fun s =>
  B.pv (V.zj l) fun t =>
  B.pv (V.bin .neq s t) fun c =>
  B.al a (B.gd h c false (fun K => K .undef h) fun _ h =>
  B.gd h c false (fun K => B.pv (V.zf 0 a) fun v => K v h) fun u h =>
  B.gd h c false (fun K => K l h) fun w h =>
  B.gd h c false (fun K => B.pv (V.zf1 1 w none (some (.int .i64 10))) fun v => K v h) fun x h =>
  B.gd h c false (fun K => B.call C (N 436) [u, x] h K) fun y h =>
  B.gd h c false (fun K => B.pv (V.un .not y) fun v => K v h) fun z h =>
  B.pick c (.bool true) z fun aa =>
  B.cond aa
  (B.pv (V.bin .add i (.int .i64 1)) fun j =>
  Y1 [k, g, b, j] h)
  (B.al a (B.gd h b true (fun K => K .undef h) fun _ h =>
  B.gd h b true (fun K => B.pv (V.zf 0 a) fun v => K v h) fun ab h =>
  B.gd h b true (fun K => K v0 h) fun ac h =>
  B.gd h b true (fun K => K v1 h) fun ad h =>
  B.gd h b true (fun K => K g h) fun ae h =>
  B.gd h b true (fun K => B.call C (N 427) [ac, ad, ae] h K) fun af h =>
  B.gd h b true (fun K => B.call C (N 273) [ab, af] h K) fun ag h =>
  B.pick b ag (.bool false) fun d =>
  B.gd h d true (fun K => K k h) fun ah h =>
  B.gd h d true (fun K => B.pv (V.zj ah) fun v => K v h) fun ai h =>
  B.gd h d true (fun K => K g h) fun aj h =>
  B.gd h d true (fun K => B.pv (V.bin .mul aj (.int .i64 180)) fun v => K v h) fun ak h =>
  B.gd h d true (fun K => B.pv (V.bin .eql ai ak) fun v => K v h) fun am h =>
  B.pick d am (.bool false) fun e =>
  B.al a (B.gd h e true (fun K => K .undef h) fun _ h =>
  B.gd h e true (fun K => B.pv (V.zf 1 a) fun v => K v h) fun an h =>
  B.gd h e true (fun K => B.pv (V.zj an) fun v => K v h) fun ao h =>
  B.gd h e true (fun K => B.pv (V.bin .gtr ao (.int .i64 0)) fun v => K v h) fun ap h =>
  B.pick e ap (.bool false) fun f =>
  B.al a (B.gd h f true (fun K => K .undef h) fun _ h =>
  B.gd h f true (fun K => B.pv (V.zf 1 a) fun v => K v h) fun aq h =>
  B.gd h f true (fun K => B.pv (V.zj aq) fun v => K v h) fun ar h =>
  B.gd h f true (fun K => B.pv (V.bin .leq ar (.int .i64 180)) fun v => K v h) fun au h =>
  B.pick f au (.bool false) fun av =>
  B.al a (B.pv (V.zf 1 a) fun aw =>
  B.appW h 1 1 k aw fun ax h =>
  B.pv (V.bin .add g (.int .i64 1)) fun ay =>
  B.pv (V.bin .add i (.int .i64 1)) fun j =>
  Y1 [ax, ay, av, j] h))))))))
  (zbg.k1 C N Q k b c6 h)
@[simp] def zbg.l3 (C : CSem) (N : zN) (Q : zQ) (f g i a b j : AVal) : zG
 | [k, c, d, e], h, Y1 => zbg.k2 C N Q Y1 f g i k c d a b e j h
 | _, _, _ => False
@[simp] def zbg.k4 (C : CSem) (N : zN) (Q : zQ) (g i b c a : AVal) (h : za) : Prop :=
 B.pv (V.eqSl .eql c .nils) fun d =>
  B.cond d
  (B.pv (A.bld [] [.int .i64 0, .int .i64 0, .int .i64 0, .str [], .int .u8 0, .nils, .nils]) fun e =>
  B.pv (V.setN 0 7 e a) fun a =>
  B.pv (oneOf (ze4 (V.zbv 0 7 a) (ze4 (some (.bool false)) (some [])))) fun v => Q v h)
  (B.pv (V.zj b) fun f =>
  zd (zbg.l3 C N Q g i c b f a) [.nils, (.int .i64 0), (.bool true), (.int .i64 0)] h)
@[simp] def zbg.k5 (C : CSem) (N : zN) (Q : zQ) (a b d : AVal) (h : za) : Prop :=
 B.call C (N 427) [a, b, (.int .i64 0)] h fun c h =>
  zbg.k4 C N Q a b d c (.agg [.int .i64 0, .int .i64 0, .int .i64 0, .str [], .int .u8 0, .nils, .nils]) h
@[simp] def zbg.cps (C : CSem) (N : zN) (a b c : AVal) (h : za) (Q : zQ) : Prop :=
 zbg.k5 C N Q a b c h
def zbg.Imp (C : CSem) (N : zN) : Prop := im3 C (N 414) (zbg.cps C N)
@[simp] def zb1.k1 (C : CSem) (N : zN) (Q : zQ) (Z1 : Nat -> za -> Prop) (n o a b : AVal) (h : za) : Prop :=
 B.ld h a fun c =>
  B.ld h n fun d =>
  B.ld h o fun e =>
  B.ld h a fun f =>
  B.pv (V.zj f) fun g =>
  B.call C (N 427) [d, e, g] h (B.zkm h [(a, none)] (fun i h => B.call C (N 428) [b] h (B.zkm h [(a, none)] (fun j h => B.pv (A.bld [(0, none, i), (1, none, j)] [.nils, .nils]) fun k =>
  B.newO h (zc0 [(0, some 2, k)] (repL 1 [.nils, .nils])) fun l h =>
  B.appW h 2 48 c (.sl l 0 0 1 2 1) fun m h =>
  B.st h a m fun h =>
  Z1 0 h))))
@[simp] def zb1.r2 (C : CSem) (N : zN) (Q : zQ) (c d a : AVal) (b : AVal) (h : za) (Z1 : Nat -> za -> Prop) : Prop :=
 zb1.k1 C N Q Z1 c d a b h
@[simp] def zb1.k3 (C : CSem) (N : zN) (Q : zQ) (e f g a : AVal) (h : za) : Prop :=
 B.call C (N 429) [g, (.int .i64 180)] h fun b h =>
  zw9 C b (W1 fun c h Z1 => zb1.r2 C N Q e f a c h Z1) h (RK [(0, fun h => B.ld h a fun d =>
  Q (.tup [d, (.int .i64 0)]) h)])
@[simp] def zb1.k4 (C : CSem) (N : zN) (Q : zQ) (b c k l : AVal) (h : za) : Prop :=
 B.pv (V.bin .neq l (.int .i64 0)) fun a =>
  B.gd h a false (fun K => B.ld h b fun v => K v h) fun d h =>
  B.gd h a false (fun K => B.ld h c fun v => K v h) fun e h =>
  B.gd h a false (fun K => B.call C (N 427) [d, e, (.int .i64 0)] h K) fun f h =>
  B.gd h a false (fun K => B.pv (V.eqSl .eql f .nils) fun v => K v h) fun g h =>
  B.pick a (.bool true) g fun i =>
  B.cond i
  (Q (.tup [.nils, (.int .i64 2)]) h)
  (B.newO h (some [.nils]) fun j h =>
  zb1.k3 C N Q b c k (.ptr j 0 0) h)
@[simp] def zb1.k5 (C : CSem) (N : zN) (Q : zQ) (e f g : AVal) (h : za) : Prop :=
 B.pv (V.zbv 0 7 g) fun b =>
  B.call C (N 28) [b] h fun a h =>
  B.pv (V.ext 0 a) fun c =>
  B.pv (V.ext 1 a) fun d =>
  zb1.k4 C N Q e f c d h
@[simp] def zb1.k6 (C : CSem) (N : zN) (Q : zQ) (a b c : AVal) (h : za) : Prop :=
 B.newO h (A.znn a) fun d h =>
  B.newO h (A.znn b) fun e h =>
  B.pv (A.boxN 7 c) fun f =>
  zb1.k5 C N Q (.ptr d 0 0) (.ptr e 0 0) f h
@[simp] def zb1.cps (C : CSem) (N : zN) (a b c : AVal) (h : za) (Q : zQ) : Prop :=
 zb1.k6 C N Q a b c h
def zb1.Imp (C : CSem) (N : zN) : Prop := im3 C (N 415) (zb1.cps C N)
@[simp] def zcl.k1 (C : CSem) (N : zN) (Q : zQ) (Y1 : zL) (m n b c a : AVal) (h : za) : Prop :=
 B.pv (V.bin .lss a c) fun d =>
  B.cond d
  (B.pv (V.bin .sub n (.int .i64 1)) fun e =>
  B.pv (V.bin .sub e a) fun f =>
  B.pv (V.bin .mul (.int .i64 8) f) fun g =>
  B.pv (V.bin .shr m g) fun i =>
  B.pv (V.toInt .u8 i) fun j =>
  B.pv (V.idxS 1 b a) fun k =>
  B.st h k j fun h =>
  B.pv (V.bin .add a (.int .i64 1)) fun l =>
  Y1 [l] h)
  (Q b h)
@[simp] def zcl.l2 (C : CSem) (N : zN) (Q : zQ) (c d e a : AVal) : zG
 | [b], h, Y1 => zcl.k1 C N Q Y1 c d e a b h
 | _, _, _ => False
@[simp] def zcl.cps (C : CSem) (N : zN) (d a : AVal) (h : za) (Q : zQ) : Prop :=
 0 < 1 ∧ B.mks h 1 (some [.int .u8 0]) a a fun b h =>
  B.pv (V.zj b) fun c =>
  zd (zcl.l2 C N Q d a b c) [(.int .i64 0)] h
def zcl.Imp (C : CSem) (N : zN) : Prop := im2 C (N 423) (zcl.cps C N)
@[simp] def zfc.cps (C : CSem) (N : zN) (a : AVal) (h : za) (Q : zQ) : Prop :=
 B.call C (N 439) [a] h fun b h =>
  Q b h
def zfc.Imp (C : CSem) (N : zN) : Prop := im1 C (N 424) (zfc.cps C N)
@[simp] def zen.k1 (C : CSem) (N : zN) (Q : zQ) (d e a : AVal) (h : za) : Prop :=
 B.ld h a fun f =>
  B.call C (N 424) [e] h (B.zkm h [(a, none)] (fun g h => B.pv (A.bld [(0, none, d), (1, none, g)] [.nils, .nils]) fun i =>
  B.newO h (zc0 [(0, some 2, i)] (repL 1 [.nils, .nils])) fun b h =>
  B.appW h 2 48 f (.sl b 0 0 1 2 1) fun c h =>
  B.st h a c fun h =>
  Q (.tup []) h))
@[simp] def zen.cps (C : CSem) (N : zN) (a b c : AVal) (h : za) (Q : zQ) : Prop :=
 zen.k1 C N Q a b c h
def zen.Imp (C : CSem) (N : zN) : Prop := im3 C (N 425) (zen.cps C N)
@[simp] def zbu.k1 (C : CSem) (N : zN) (Q : zQ) (Y1 : zL) (d aa e b c1 : AVal) (h : za) : Prop :=
 B.pv (V.bin .lss b e) fun f =>
  B.cond f
  (B.pv (V.idxS 8 aa b) fun g =>
  B.ldn h g 8 fun i =>
  B.pv (V.setN 0 8 i (.agg [.int .i64 0, .str [], .int .i64 0, .int .i64 0, .int .i64 0, .int .u8 0, .int .i64 0, .str []])) fun j =>
  B.gd h d true (fun K => B.pv (V.zbv 0 8 j) fun v => K v h) fun k h =>
  B.gd h d true (fun K => B.call C (N 179) [k] h K) fun l h =>
  B.pick d l (.bool false) fun c =>
  B.gd h c true (fun K => K b h) fun m h =>
  B.gd h c true (fun K => B.pv (V.bin .eql m (.int .i64 0)) fun v => K v h) fun n h =>
  B.gd h c true (fun K => K n h) fun a h =>
  B.al c1 (B.gd h a false (fun K => K .undef h) fun _ h =>
  B.gd h a false (fun K => B.pv (V.zf 5 c1) fun v => K v h) fun o h =>
  B.gd h a false (fun K => K b h) fun p h =>
  B.gd h a false (fun K => B.pv (V.bin .sub p (.int .i64 1)) fun v => K v h) fun q h =>
  B.gd h a false (fun K => B.pv (V.idxS 8 o q) fun v => K v h) fun r h =>
  B.gd h a false (fun K => B.pv (V.fieldAddr 0 r) fun v => K v h) fun s h =>
  B.gd h a false (fun K => B.ld h s fun v => K v h) fun t h =>
  B.al j (B.gd h a false (fun K => K .undef h) fun _ h =>
  B.gd h a false (fun K => B.pv (V.zf 0 j) fun v => K v h) fun u h =>
  B.gd h a false (fun K => B.pv (V.bin .lss t u) fun v => K v h) fun w h =>
  B.gd h c true (fun K => B.pick a (.bool true) w fun v => K v h) fun x h =>
  B.pick c x (.bool false) fun y =>
  B.pv (V.bin .add b (.int .i64 1)) fun z =>
  Y1 [y, z] h)))
  (Q d h)
@[simp] def zbu.l2 (C : CSem) (N : zN) (Q : zQ) (c a d : AVal) : zG
 | [e, b], h, Y1 => zbu.k1 C N Q Y1 e c a b d h
 | _, _, _ => False
@[simp] def zbu.k3 (C : CSem) (N : zN) (Q : zQ) (Y2 : zL) (e j k b d : AVal) (h : za) : Prop :=
 B.pv (V.bin .lss b k) fun l =>
  B.cond l
  (B.pv (V.idxS 6 j b) fun m =>
  B.ldn h m 6 fun n =>
  B.pv (V.setN 0 6 n (.agg [.int .i64 0, .str [], .int .i64 0, .int .i64 0, .int .i64 0, .bool false])) fun g =>
  B.gd h e true (fun K => B.pv (V.zbv 0 6 g) fun v => K v h) fun o h =>
  B.gd h e true (fun K => B.call C (N 52) [o] h K) fun p h =>
  B.pick e p (.bool false) fun c =>
  B.gd h c true (fun K => K b h) fun q h =>
  B.gd h c true (fun K => B.pv (V.bin .eql q (.int .i64 0)) fun v => K v h) fun r h =>
  B.gd h c true (fun K => K r h) fun a h =>
  B.al d (B.gd h a false (fun K => K .undef h) fun _ h =>
  B.gd h a false (fun K => B.pv (V.zf 4 d) fun v => K v h) fun s h =>
  B.gd h a false (fun K => K b h) fun t h =>
  B.gd h a false (fun K => B.pv (V.bin .sub t (.int .i64 1)) fun v => K v h) fun u h =>
  B.gd h a false (fun K => B.pv (V.idxS 6 s u) fun v => K v h) fun w h =>
  B.gd h a false (fun K => B.pv (V.fieldAddr 0 w) fun v => K v h) fun x h =>
  B.gd h a false (fun K => B.ld h x fun v => K v h) fun y h =>
  B.al g (B.gd h a false (fun K => K .undef h) fun _ h =>
  B.gd h a false (fun K => B.pv (V.zf 0 g) fun v => K v h) fun z h =>
  B.gd h a false (fun K => B.pv (V.bin .lss y z) fun v => K v h) fun aa h =>
  B.gd h c true (fun K => B.pick a (.bool true) aa fun v => K v h) fun ab h =>
  B.pick c ab (.bool false) fun ac =>
  B.pv (V.bin .add b (.int .i64 1)) fun ad =>
  Y2 [ac, ad] h)))
  (B.al d (B.pv (V.zf 5 d) fun f =>
  B.pv (V.zj f) fun i =>
  zd (zbu.l2 C N Q f i d) [e, (.int .i64 0)] h))
@[simp] def zbu.l4 (C : CSem) (N : zN) (Q : zQ) (a b d : AVal) : zG
 | [e, c], h, Y2 => zbu.k3 C N Q Y2 e a b c d h
 | _, _, _ => False
@[simp] def zbu.k5 (C : CSem) (N : zN) (Q : zQ) (Y3 : zL) (e i j b d : AVal) (h : za) : Prop :=
 B.pv (V.bin .lss b j) fun k =>
  B.cond k
  (B.pv (V.idxS 4 i b) fun l =>
  B.ldn h l 4 fun m =>
  B.pv (V.setN 0 4 m (.agg [.str [], .int .i64 0, .nils, .nils])) fun g =>
  B.gd h e true (fun K => B.pv (V.zbv 0 4 g) fun v => K v h) fun n h =>
  B.gd h e true (fun K => B.call C (N 438) [n] h K) fun o h =>
  B.pick e o (.bool false) fun c =>
  B.gd h c true (fun K => K b h) fun p h =>
  B.gd h c true (fun K => B.pv (V.bin .eql p (.int .i64 0)) fun v => K v h) fun q h =>
  B.gd h c true (fun K => K q h) fun a h =>
  B.al d (B.gd h a false (fun K => K .undef h) fun _ h =>
  B.gd h a false (fun K => B.pv (V.zf 3 d) fun v => K v h) fun r h =>
  B.gd h a false (fun K => K b h) fun s h =>
  B.gd h a false (fun K => B.pv (V.bin .sub s (.int .i64 1)) fun v => K v h) fun t h =>
  B.gd h a false (fun K => B.pv (V.idxS 4 r t) fun v => K v h) fun u h =>
  B.gd h a false (fun K => B.pv (V.fieldAddr 0 u) fun v => K v h) fun w h =>
  B.gd h a false (fun K => B.ld h w fun v => K v h) fun x h =>
  B.al g (B.gd h a false (fun K => K .undef h) fun _ h =>
  B.gd h a false (fun K => B.pv (V.zf 0 g) fun v => K v h) fun y h =>
  B.gd h a false (fun K => B.pv (V.bin .lss x y) fun v => K v h) fun z h =>
  B.gd h c true (fun K => B.pick a (.bool true) z fun v => K v h) fun aa h =>
  B.pick c aa (.bool false) fun ab =>
  B.pv (V.bin .add b (.int .i64 1)) fun ac =>
  Y3 [ab, ac] h)))
  (B.al d (B.pv (V.zf 4 d) fun f =>
  B.pv (V.zj f) fun ad =>
  zd (zbu.l4 C N Q f ad d) [e, (.int .i64 0)] h))
@[simp] def zbu.l6 (C : CSem) (N : zN) (Q : zQ) (a b d : AVal) : zG
 | [e, c], h, Y3 => zbu.k5 C N Q Y3 e a b c d h
 | _, _, _ => False
@[simp] def zbu.k7 (C : CSem) (N : zN) (Q : zQ) (a : AVal) (h : za) : Prop :=
 B.al a (B.pv (V.zf 0 a) fun i =>
  B.pv (V.bin .geq i (.int .i64 0)) fun b =>
  B.al a (B.gd h b true (fun K => K .undef h) fun _ h =>
  B.gd h b true (fun K => B.pv (V.zf 0 a) fun v => K v h) fun j h =>
  B.gd h b true (fun K => B.pv (V.bin .leq j (.int .i64 4000)) fun v => K v h) fun k h =>
  B.pick b k (.bool false) fun c =>
  B.al a (B.gd h c true (fun K => K .undef h) fun _ h =>
  B.gd h c true (fun K => B.pv (V.zf 1 a) fun v => K v h) fun l h =>
  B.gd h c true (fun K => B.pv (V.bin .gtr l (.int .i64 0)) fun v => K v h) fun m h =>
  B.pick c m (.bool false) fun d =>
  B.al a (B.gd h d true (fun K => K .undef h) fun _ h =>
  B.gd h d true (fun K => B.pv (V.zf 1 a) fun v => K v h) fun n h =>
  B.gd h d true (fun K => B.pv (V.bin .leq n (.int .i64 4611686018427387904)) fun v => K v h) fun o h =>
  B.pick d o (.bool false) fun e =>
  B.al a (B.gd h e true (fun K => K .undef h) fun _ h =>
  B.gd h e true (fun K => B.pv (V.zf 2 a) fun v => K v h) fun p h =>
  B.gd h e true (fun K => B.pv (V.bin .gtr p (.int .i64 0)) fun v => K v h) fun q h =>
  B.pick e q (.bool false) fun f =>
  B.al a (B.gd h f true (fun K => K .undef h) fun _ h =>
  B.gd h f true (fun K => B.pv (V.zf 2 a) fun v => K v h) fun r h =>
  B.gd h f true (fun K => B.pv (V.bin .leq r (.int .i64 4611686018427387904)) fun v => K v h) fun s h =>
  B.pick f s (.bool false) fun t =>
  B.al a (B.pv (V.zf 3 a) fun g =>
  B.pv (V.zj g) fun u =>
  zd (zbu.l6 C N Q g u a) [t, (.int .i64 0)] h)))))))
@[simp] def zbu.cps (C : CSem) (N : zN) (a : AVal) (h : za) (Q : zQ) : Prop :=
 B.pv (A.boxN 6 a) fun b =>
  zbu.k7 C N Q b h
def zbu.Imp (C : CSem) (N : zN) : Prop := im1 C (N 426) (zbu.cps C N)
@[simp] def zgq.k1 (C : CSem) (N : zN) (Q : zQ) (e f g : AVal) (h : za) : Prop :=
 B.pv (V.bin .lss e (.int .i64 0)) fun i =>
  B.gd h i false (fun K => K e h) fun j h =>
  B.gd h i false (fun K => B.pv (V.bin .geq j (.int .i64 4)) fun v => K v h) fun k h =>
  B.pick i (.bool true) k fun a =>
  B.gd h a false (fun K => K f h) fun l h =>
  B.gd h a false (fun K => B.pv (V.bin .lss l (.int .i64 1)) fun v => K v h) fun m h =>
  B.pick a (.bool true) m fun b =>
  B.gd h b false (fun K => K f h) fun n h =>
  B.gd h b false (fun K => B.pv (V.bin .gtr n (.int .i64 4611686018427387904)) fun v => K v h) fun o h =>
  B.pick b (.bool true) o fun c =>
  B.gd h c false (fun K => K g h) fun p h =>
  B.gd h c false (fun K => B.pv (V.bin .lss p (.int .i64 0)) fun v => K v h) fun q h =>
  B.pick c (.bool true) q fun d =>
  B.gd h d false (fun K => K g h) fun r h =>
  B.gd h d false (fun K => B.pv (V.bin .geq r (.int .i64 1000)) fun v => K v h) fun s h =>
  B.pick d (.bool true) s fun t =>
  B.cond t
  (Q .nils h)
  (B.pv (V.toInt .u8 e) fun u =>
  B.newO h (zc0 [(0, none, (.int .u8 97)), (1, none, u)] (repL 2 [.int .u8 0])) fun w h =>
  B.call C (N 423) [f, (.int .i64 8)] h fun x h =>
  B.call C (N 423) [g, (.int .i64 2)] h fun y h =>
  B.newO h (zc0 [(0, none, (.sl w 0 0 2 1 2)), (1, none, x), (2, none, y)] (repL 3 [.nils])) fun z h =>
  B.call C (N 424) [(.sl z 0 0 3 1 3)] h fun aa h =>
  Q aa h)
@[simp] def zgq.cps (C : CSem) (N : zN) (a b c : AVal) (h : za) (Q : zQ) : Prop :=
 zgq.k1 C N Q a b c h
def zgq.Imp (C : CSem) (N : zN) : Prop := im3 C (N 427) (zgq.cps C N)
@[simp] def zd8.k1 (C : CSem) (N : zN) (Q : zQ) (i j : AVal) (h : za) : Prop :=
 B.pv (A.boxN 2 i) fun b =>
  B.pv (A.boxN 2 j) fun c =>
  B.al b (B.pv (V.zf 0 b) fun k =>
  B.al c (B.pv (V.zf 0 c) fun l =>
  B.call C (N 273) [k, l] h fun a h =>
  B.al b (B.gd h a true (fun K => K .undef h) fun _ h =>
  B.gd h a true (fun K => B.pv (V.zf 1 b) fun v => K v h) fun d h =>
  B.al c (B.gd h a true (fun K => K .undef h) fun _ h =>
  B.gd h a true (fun K => B.pv (V.zf 1 c) fun v => K v h) fun e h =>
  B.gd h a true (fun K => B.call C (N 273) [d, e] h K) fun f h =>
  B.pick a f (.bool false) fun g =>
  Q g h))))
@[simp] def zd8.cps (C : CSem) (N : zN) (a b : AVal) (h : za) (Q : zQ) : Prop :=
 zd8.k1 C N Q a b h
def zd8.Imp (C : CSem) (N : zN) : Prop := im2 C (N 430) (zd8.cps C N)
@[simp] def zp.k1 (C : CSem) (N : zN) (Q : zQ) (a i j : AVal) (h : za) : Prop :=
 B.nilCheck a fun b =>
  B.pv (V.fieldAddr 0 b) fun c =>
  B.ld h c fun d =>
  B.pv (V.zf1 1 d (some i) none) fun e =>
  B.nilCheck a fun f =>
  B.pv (V.fieldAddr 0 f) fun g =>
  B.st h g e fun h =>
  Q j h
@[simp] def zp.k2 (C : CSem) (N : zN) (Q : zQ) (Y1 : zL) (m n b c d a : AVal) (h : za) : Prop :=
 B.pv (V.bin .lss a d) fun e =>
  B.cond e
  (B.pv (V.idxS 1 c a) fun f =>
  B.ld h f fun g =>
  B.pv (V.bin .shl b (.int .u64 8)) fun i =>
  B.pv (V.toInt .i64 g) fun j =>
  B.pv (V.bin .or i j) fun k =>
  B.pv (V.bin .add a (.int .i64 1)) fun l =>
  Y1 [k, l] h)
  (zp.k1 C N Q m n b h)
@[simp] def zp.l3 (C : CSem) (N : zN) (Q : zQ) (d e a b : AVal) : zG
 | [f, c], h, Y1 => zp.k2 C N Q Y1 d e f a b c h
 | _, _, _ => False
@[simp] def zp.k4 (C : CSem) (N : zN) (Q : zQ) (b c i : AVal) (h : za) : Prop :=
 B.nilCheck b fun d =>
  B.pv (V.fieldAddr 0 d) fun e =>
  B.ld h e fun f =>
  B.pv (V.zf1 1 f none (some c)) fun a =>
  B.pv (V.zj a) fun g =>
  zd (zp.l3 C N Q b c a g) [i, (.int .i64 0)] h
@[simp] def zp.k5 (C : CSem) (N : zN) (Q : zQ) (b c : AVal) (h : za) : Prop :=
 B.nilCheck b fun d =>
  B.pv (V.fieldAddr 1 d) fun e =>
  B.ld h e fun a =>
  B.gd h a false (fun K => K c h) fun f h =>
  B.gd h a false (fun K => K b h) fun g h =>
  B.gd h a false (fun K => B.nilCheck g fun v => K v h) fun i h =>
  B.gd h a false (fun K => B.pv (V.fieldAddr 0 i) fun v => K v h) fun j h =>
  B.gd h a false (fun K => B.ld h j fun v => K v h) fun k h =>
  B.gd h a false (fun K => B.pv (V.zj k) fun v => K v h) fun l h =>
  B.gd h a false (fun K => B.pv (V.bin .gtr f l) fun v => K v h) fun m h =>
  B.pick a (.bool true) m fun n =>
  B.nilCheck b fun o =>
  B.pv (V.fieldAddr 1 o) fun p =>
  B.st h p n fun h =>
  B.nilCheck b fun q =>
  B.pv (V.fieldAddr 1 q) fun r =>
  B.ld h r fun s =>
  B.cond s
  (Q (.int .i64 0) h)
  (zp.k4 C N Q b c (.int .i64 0) h)
@[simp] def zp.cps (C : CSem) (N : zN) (a b : AVal) (h : za) (Q : zQ) : Prop :=
 zp.k5 C N Q a b h
def zp.Imp (C : CSem) (N : zN) : Prop := im2 C (N 432) (zp.cps C N)
@[simp] def zz.k1 (C : CSem) (N : zN) (Q : zQ) (Y1 : zL) (d e c b : AVal) (h : za) : Prop :=
 B.pv (V.bin .gtr e (.int .i64 0)) fun a =>
  B.gd h a true (fun K => K d h) fun f h =>
  B.gd h a true (fun K => B.nilCheck f fun v => K v h) fun g h =>
  B.gd h a true (fun K => B.pv (V.fieldAddr 1 g) fun v => K v h) fun i h =>
  B.gd h a true (fun K => B.ld h i fun v => K v h) fun j h =>
  B.gd h a true (fun K => B.pv (V.un .not j) fun v => K v h) fun k h =>
  B.pick a k (.bool false) fun l =>
  B.cond l
  (B.al b (B.pv (V.zf 3 b) fun m =>
  B.call C (N 440) [d] h fun n h =>
  B.newO h (zc0 [(0, none, n)] (repL 1 [.str []])) fun o h =>
  B.appW h 1 16 m (.sl o 0 0 1 1 1) fun p h =>
  B.al b (B.pv (V.setF 3 p b) fun b =>
  B.pv (V.bin .sub e (.int .i64 1)) fun q =>
  Y1 [q, b] h)))
  (B.pv (V.zbv 0 4 b) fun r =>
  B.pv (V.setN 0 4 r c) fun c =>
  B.pv (oneOf (ze4 (V.zbv 0 4 c) (some []))) fun v => Q v h)
@[simp] def zz.l2 (C : CSem) (N : zN) (Q : zQ) (a b : AVal) : zG
 | [c, d], h, Y1 => zz.k1 C N Q Y1 a c b d h
 | _, _, _ => False
@[simp] def zz.k3 (C : CSem) (N : zN) (Q : zQ) (Y2 : zL) (c e w b : AVal) (h : za) : Prop :=
 B.pv (V.bin .gtr e (.int .i64 0)) fun a =>
  B.gd h a true (fun K => K c h) fun f h =>
  B.gd h a true (fun K => B.nilCheck f fun v => K v h) fun g h =>
  B.gd h a true (fun K => B.pv (V.fieldAddr 1 g) fun v => K v h) fun i h =>
  B.gd h a true (fun K => B.ld h i fun v => K v h) fun j h =>
  B.gd h a true (fun K => B.pv (V.un .not j) fun v => K v h) fun k h =>
  B.pick a k (.bool false) fun l =>
  B.cond l
  (B.call C (N 440) [c] h fun m h =>
  B.pv (A.bld [(0, none, m)] [.str [], .int .i64 0]) fun n =>
  B.pv (V.setN 0 2 n (.agg [.str [], .int .i64 0])) fun d =>
  B.call C (N 432) [c, (.int .i64 4)] h fun o h =>
  B.al d (B.pv (V.setF 1 o d) fun d =>
  B.al b (B.pv (V.zf 2 b) fun p =>
  B.pv (V.zbv 0 2 d) fun q =>
  B.newO h (zc0 [(0, some 2, q)] (repL 1 [.str [], .int .i64 0])) fun r h =>
  B.appW h 2 24 p (.sl r 0 0 1 2 1) fun s h =>
  B.al b (B.pv (V.setF 2 s b) fun b =>
  B.pv (V.bin .sub e (.int .i64 1)) fun t =>
  Y2 [t, b] h))))
  (B.call C (N 432) [c, (.int .i64 1)] h fun u h =>
  zd (zz.l2 C N Q c w) [u, b] h)
@[simp] def zz.l4 (C : CSem) (N : zN) (Q : zQ) (a b : AVal) : zG
 | [c, d], h, Y2 => zz.k3 C N Q Y2 a c b d h
 | _, _, _ => False
@[simp] def zz.k5 (C : CSem) (N : zN) (Q : zQ) (a e f : AVal) (h : za) : Prop :=
 B.call C (N 432) [a, (.int .i64 2)] h fun b h =>
  B.pv (A.bld [(0, none, e), (1, none, b)] [.str [], .int .i64 0, .nils, .nils]) fun c =>
  B.pv (V.setN 0 4 c (.agg [.str [], .int .i64 0, .nils, .nils])) fun g =>
  B.call C (N 432) [a, (.int .i64 1)] h fun d h =>
  zd (zz.l4 C N Q a f) [d, g] h
@[simp] def zz.cps (C : CSem) (N : zN) (a b : AVal) (h : za) (Q : zQ) : Prop :=
 zz.k5 C N Q a b (.agg [.str [], .int .i64 0, .nils, .nils]) h
def zz.Imp (C : CSem) (N : zN) : Prop := im2 C (N 433) (zz.cps C N)
@[simp] def zco.k1 (C : CSem) (N : zN) (Q : zQ) (b j : AVal) (h : za) : Prop :=
 B.call C (N 440) [b] h fun k h =>
  B.pv (A.bld [(0, none, j), (1, none, k)] [.int .i64 0, .str [], .int .i64 0, .int .i64 0, .int .i64 0, .bool false]) fun l =>
  B.pv (V.setN 0 6 l (.agg [.int .i64 0, .str [], .int .i64 0, .int .i64 0, .int .i64 0, .bool false])) fun a =>
  B.call C (N 432) [b, (.int .i64 2)] h fun c h =>
  B.call C (N 432) [b, (.int .i64 2)] h fun d h =>
  B.al a (B.al a (B.pv (V.setF 2 c a) fun a =>
  B.al a (B.al a (B.pv (V.setF 3 d a) fun a =>
  B.call C (N 432) [b, (.int .i64 4)] h fun e h =>
  B.al a (B.pv (V.setF 4 e a) fun a =>
  B.call C (N 432) [b, (.int .i64 1)] h fun f h =>
  B.pv (V.bin .eql f (.int .i64 1)) fun g =>
  B.al a (B.pv (V.setF 5 g a) fun a =>
  B.pv (V.zbv 0 6 a) fun i =>
  B.pv (V.setN 0 6 i (.agg [.int .i64 0, .str [], .int .i64 0, .int .i64 0, .int .i64 0, .bool false])) fun m =>
  B.pv (oneOf (ze4 (V.zbv 0 6 m) (some []))) fun v => Q v h))))))
@[simp] def zco.cps (C : CSem) (N : zN) (a b : AVal) (h : za) (Q : zQ) : Prop :=
 zco.k1 C N Q a b h
def zco.Imp (C : CSem) (N : zN) : Prop := im2 C (N 434) (zco.cps C N)
@[simp] def zch.k1 (C : CSem) (N : zN) (Q : zQ) (b m : AVal) (h : za) : Prop :=
 B.call C (N 440) [b] h fun n h =>
  B.pv (A.bld [(0, none, m), (1, none, n)] [.int .i64 0, .str [], .int .i64 0, .int .i64 0, .int .i64 0, .int .u8 0, .int .i64 0, .str []]) fun o =>
  B.pv (V.setN 0 8 o (.agg [.int .i64 0, .str [], .int .i64 0, .int .i64 0, .int .i64 0, .int .u8 0, .int .i64 0, .str []])) fun a =>
  B.call C (N 432) [b, (.int .i64 4)] h fun c h =>
  B.al a (B.pv (V.setF 2 c a) fun a =>
  B.call C (N 432) [b, (.int .i64 2)] h fun d h =>
  B.call C (N 432) [b, (.int .i64 1)] h fun e h =>
  B.al a (B.pv (V.setF 3 d a) fun a =>
  B.al a (B.pv (V.setF 4 e a) fun a =>
  B.call C (N 432) [b, (.int .i64 1)] h fun f h =>
  B.pv (V.toInt .u8 f) fun g =>
  B.al a (B.pv (V.setF 5 g a) fun a =>
  B.call C (N 432) [b, (.int .i64 2)] h fun i h =>
  B.pv (V.bin .sub i (.int .i64 1)) fun j =>
  B.al a (B.pv (V.setF 6 j a) fun a =>
  B.call C (N 440) [b] h fun k h =>
  B.al a (B.pv (V.setF 7 k a) fun a =>
  B.pv (V.zbv 0 8 a) fun l =>
  B.pv (V.setN 0 8 l (.agg [.int .i64 0, .str [], .int .i64 0, .int .i64 0, .int .i64 0, .int .u8 0, .int .i64 0, .str []])) fun p =>
  B.pv (oneOf (ze4 (V.zbv 0 8 p) (some []))) fun v => Q v h))))))
@[simp] def zch.cps (C : CSem) (N : zN) (a b : AVal) (h : za) (Q : zQ) : Prop :=
 zch.k1 C N Q a b h
def zch.Imp (C : CSem) (N : zN) : Prop := im2 C (N 435) (zch.cps C N)
@[simp] def zdf.k1 (C : CSem) (N : zN) (Q : zQ) (g b : AVal) (h : za) : Prop :=
 B.al b (B.pv (V.zf 1 b) fun c =>
  B.pv (V.bin .eql c (.int .i64 0)) fun a =>
  B.gd h a true (fun K => K g h) fun d h =>
  B.gd h a true (fun K => B.call C (N 441) [(.int .i64 8), d] h K) fun e h =>
  B.pick a e (.bool false) fun f =>
  Q f h)
@[simp] def zdf.k2 (C : CSem) (N : zN) (Q : zQ) (Y1 : zL) (d e f c s : AVal) (h : za) : Prop :=
 B.pv (V.bin .lss c f) fun g =>
  B.cond g
  (B.pv (V.idxS 2 e c) fun i =>
  B.ldn h i 2 fun j =>
  B.pv (V.setN 0 2 j (.agg [.str [], .int .i64 0])) fun b =>
  B.al b (B.pv (V.zf 1 b) fun k =>
  B.pv (V.bin .lss k (.int .i64 1)) fun a =>
  B.al b (B.gd h a false (fun K => K .undef h) fun _ h =>
  B.gd h a false (fun K => B.pv (V.zf 1 b) fun v => K v h) fun l h =>
  B.gd h a false (fun K => B.pv (V.bin .gtr l (.int .i64 1073741824)) fun v => K v h) fun m h =>
  B.pick a (.bool true) m fun n =>
  B.cond n
  (Q (.bool false) h)
  (B.al b (B.pv (V.zf 0 b) fun o =>
  B.newO h (zc0 [(0, none, o)] (repL 1 [.str []])) fun p h =>
  B.appW h 1 16 d (.sl p 0 0 1 1 1) fun q h =>
  B.pv (V.bin .add c (.int .i64 1)) fun r =>
  Y1 [q, r] h)))))
  (zdf.k1 C N Q d s h)
@[simp] def zdf.l3 (C : CSem) (N : zN) (Q : zQ) (a b d : AVal) : zG
 | [e, c], h, Y1 => zdf.k2 C N Q Y1 e a b c d h
 | _, _, _ => False
@[simp] def zdf.k4 (C : CSem) (N : zN) (Q : zQ) (a : AVal) (h : za) : Prop :=
 B.al a (B.pv (V.zf 2 a) fun d =>
  B.pv (V.zj d) fun e =>
  B.pv (V.bin .eql e (.int .i64 0)) fun f =>
  B.cond f
  (B.al a (B.pv (V.zf 1 a) fun g =>
  B.pv (V.bin .gtr g (.int .i64 0)) fun b =>
  B.al a (B.gd h b true (fun K => K .undef h) fun _ h =>
  B.gd h b true (fun K => B.pv (V.zf 1 a) fun v => K v h) fun i h =>
  B.gd h b true (fun K => B.pv (V.bin .leq i (.int .i64 2000)) fun v => K v h) fun j h =>
  B.pick b j (.bool false) fun k =>
  Q k h)))
  (B.al a (B.pv (V.zf 2 a) fun c =>
  B.pv (V.zj c) fun l =>
  zd (zdf.l3 C N Q c l a) [.nils, (.int .i64 0)] h)))
@[simp] def zdf.k5 (C : CSem) (N : zN) (Q : zQ) (a : AVal) (h : za) : Prop :=
 B.al a (B.pv (V.zf 0 a) fun f =>
  B.newO h (zc0 [(0, none, f)] (repL 1 [.str []])) fun g h =>
  B.al a (B.pv (V.zf 3 a) fun b =>
  B.appW h 1 16 (.sl g 0 0 1 1 1) b fun c h =>
  B.call C (N 441) [(.int .i64 5), c] h fun d h =>
  B.pv (V.un .not d) fun e =>
  B.cond e
  (Q (.bool false) h)
  (zdf.k4 C N Q a h)))
@[simp] def zdf.cps (C : CSem) (N : zN) (a : AVal) (h : za) (Q : zQ) : Prop :=
 B.pv (A.boxN 4 a) fun b =>
  zdf.k5 C N Q b h
def zdf.Imp (C : CSem) (N : zN) : Prop := im1 C (N 438) (zdf.cps C N)
@[simp] def zb3.k1 (C : CSem) (N : zN) (Q : zQ) (a : AVal) (h : za) : Prop :=
 B.nilCheck a fun s =>
  B.pv (V.fieldAddr 1 s) fun t =>
  B.ld h t fun u =>
  B.cond u
  (Q (.str []) h)
  (B.nilCheck a fun c =>
  B.pv (V.fieldAddr 0 c) fun d =>
  B.ld h d fun e =>
  B.call C (N 103) [e] h fun b h =>
  B.pv (V.ext 0 b) fun f =>
  B.pv (V.ext 1 b) fun g =>
  B.pv (V.ext 2 b) fun i =>
  B.pv (V.un .not i) fun j =>
  B.nilCheck a fun k =>
  B.pv (V.fieldAddr 1 k) fun l =>
  B.st h l j fun h =>
  B.nilCheck a fun m =>
  B.pv (V.fieldAddr 0 m) fun n =>
  B.ld h n fun o =>
  B.pv (V.zf1 1 o (some g) none) fun p =>
  B.nilCheck a fun q =>
  B.pv (V.fieldAddr 0 q) fun r =>
  B.st h r p fun h =>
  Q f h)
@[simp] def zb3.cps (C : CSem) (N : zN) (a : AVal) (h : za) (Q : zQ) : Prop :=
 zb3.k1 C N Q a h
def zb3.Imp (C : CSem) (N : zN) : Prop := im1 C (N 440) (zb3.cps C N)
@[simp] def zd2.k1 (C : CSem) (N : zN) (Q : zQ) (Y1 : zL) (r d s t b : AVal) (h : za) : Prop :=
 B.pv (V.bin .lss b t) fun e =>
  B.cond e
  (B.pv (V.idxS 1 s b) fun f =>
  B.ld h f fun c =>
  B.call C (N 53) [c] h fun g h =>
  B.pv (V.un .not g) fun a =>
  B.gd h a false (fun K => K d h) fun i h =>
  B.gd h a false (fun K => K b h) fun j h =>
  B.gd h a false (fun K => B.pv (V.zf1 1 i none (some j)) fun v => K v h) fun k h =>
  B.gd h a false (fun K => K c h) fun l h =>
  B.gd h a false (fun K => B.call C (N 442) [k, l] h K) fun m h =>
  B.pick a (.bool true) m fun n =>
  B.cond n
  (Q (.bool false) h)
  (B.pv (V.bin .add b (.int .i64 1)) fun o =>
  Y1 [o] h))
  (B.pv (V.zj d) fun p =>
  B.pv (V.bin .leq p r) fun q =>
  Q q h)
@[simp] def zd2.l2 (C : CSem) (N : zN) (Q : zQ) (a b c d : AVal) : zG
 | [e], h, Y1 => zd2.k1 C N Q Y1 a b c d e h
 | _, _, _ => False
@[simp] def zd2.cps (C : CSem) (N : zN) (b a : AVal) (h : za) (Q : zQ) : Prop :=
 B.pv (V.zj a) fun c =>
  zd (zd2.l2 C N Q b a a c) [(.int .i64 0)] h
def zd2.Imp (C : CSem) (N : zN) : Prop := im2 C (N 441) (zd2.cps C N)
@[simp] def zhp.k1 (C : CSem) (E : zfz) (Q : zQ) (a m : AVal) (h : za) : Prop :=
 B.pv (V.capSl a) fun c =>
  B.pv (V.zj a) fun d =>
  B.pv (V.bin .sub c d) fun e =>
  B.pv (V.bin .sub m e) fun b =>
  B.pv (V.bin .gtr b (.int .i64 0)) fun f =>
  B.cond f
  (B.pv (V.capSl a) fun g =>
  B.pv (V.zf1 E.es a none (some g)) fun i =>
  B.appZ h E.es E.bytes E.z i b fun j h =>
  B.pv (V.zj a) fun k =>
  B.pv (V.zf1 E.es j none (some k)) fun l =>
  Q l h)
  (Q a h)
@[simp] def zhp.cps (C : CSem) (E : zfz) (b a : AVal) (h : za) (Q : zQ) : Prop :=
 B.pv (V.bin .lss a (.int .i64 0)) fun c =>
  B.cond c
  (False)
  (zhp.k1 C E Q b a h)
@[simp] def zl2.k1 (C : CSem) (E : zfz) (f1 : Nat) (Q : zQ) (b c : AVal) (h : za) : Prop :=
 B.newO h (A.znn b) fun d h =>
  B.newO h (A.znn c) fun a h =>
  B.ld h (.ptr a 0 0) fun e =>
  B.pv (V.bin .lss e (.int .i64 1)) fun f =>
  B.cond f
  (False)
  (Q (.fn f1 [] [(.ptr d 0 0), (.ptr a 0 0)]) h)
@[simp] def zl2.cps (C : CSem) (E : zfz) (f1 : Nat) (a b : AVal) (h : za) (Q : zQ) : Prop :=
 zl2.k1 C E f1 Q a b h
@[simp] def zmf.cps (C : CSem) (E : zfz) (f1 : Nat) (a b : AVal) (h : za) (Q : zQ) : Prop :=
 B.call C f1 [a, b] h fun c h =>
  B.pv (V.bin .geq c (.int .i64 0)) fun d =>
  Q d h
@[simp] def zfb.k1 (C : CSem) (E : zfz) (Q : zQ) (Y1 : zL) (f g i a : AVal) (h : za) : Prop :=
 B.pv (V.bin .lss a i) fun j =>
  B.cond j
  (B.pv (V.idxS E.es f a) fun b =>
  E.ld h b fun c =>
  B.pv (V.bin .eql g c) fun d =>
  B.cond d
  (Q a h)
  (B.pv (V.bin .add a (.int .i64 1)) fun e =>
  Y1 [e] h))
  (Q (.int .i64 (-1)) h)
@[simp] def zfb.l2 (C : CSem) (E : zfz) (Q : zQ) (a b c : AVal) : zG
 | [d], h, Y1 => zfb.k1 C E Q Y1 a b c d h
 | _, _, _ => False
@[simp] def zfb.cps (C : CSem) (E : zfz) (a b : AVal) (h : za) (Q : zQ) : Prop :=
 B.pv (V.zj a) fun c =>
  zd (zfb.l2 C E Q a b c) [(.int .i64 0)] h
def zbj.cps (C : CSem) (N : zN) (a b : AVal) (h : za) (Q : zQ) : Prop :=
 zl2.cps C (opsS 1 (.int .u8 0) 0) (N 443) a b h Q
def zbj.Imp (C : CSem) (N : zN) : Prop := im2 C (N 429) (zbj.cps C N)
@[simp] def zb.k1 (C : CSem) (N : zN) (Q : zQ) (Y1 : zL) (o p b c a : AVal) (h : za) : Prop :=
 B.pv (V.bin .lss a c) fun d =>
  B.cond d
  (B.pv (V.idxS 2 b a) fun e =>
  B.ldn h e 2 fun f =>
  B.pv (V.setN 0 2 f (.agg [.nils, .nils])) fun q =>
  B.pv (V.idxS 2 o a) fun g =>
  B.ldn h g 2 fun i =>
  B.pv (V.setN 0 2 i (.agg [.nils, .nils])) fun r =>
  B.pv (V.zbv 0 2 q) fun j =>
  B.pv (V.zbv 0 2 r) fun k =>
  B.zkp h C p [j, k] fun l h =>
  B.pv (V.un .not l) fun m =>
  B.cond m
  (Q (.bool false) h)
  (B.pv (V.bin .add a (.int .i64 1)) fun n =>
  Y1 [n] h))
  (Q (.bool true) h)
@[simp] def zb.l2 (C : CSem) (N : zN) (Q : zQ) (d e a b : AVal) : zG
 | [c], h, Y1 => zb.k1 C N Q Y1 d e a b c h
 | _, _, _ => False
@[simp] def zb.k3 (C : CSem) (N : zN) (Q : zQ) (a b g : AVal) (h : za) : Prop :=
 B.pv (V.zj a) fun c =>
  B.pv (V.zj b) fun d =>
  B.pv (V.bin .neq c d) fun e =>
  B.cond e
  (Q (.bool false) h)
  (B.pv (V.zj a) fun f =>
  zd (zb.l2 C N Q b g a f) [(.int .i64 0)] h)
@[simp] def zb.cps (C : CSem) (N : zN) (a b c : AVal) (h : za) (Q : zQ) : Prop :=
 zb.k3 C N Q a b c h
def zb.Imp (C : CSem) (N : zN) : Prop := im3 C (N 431) (zb.cps C N)
@[simp] def zg.k1 (C : CSem) (N : zN) (Q : zQ) (Y1 : zL) (b c d a : AVal) (h : za) : Prop :=
 B.pv (V.bin .lss a d) fun e =>
  B.cond e
  (B.pv (V.idxS 1 c a) fun f =>
  B.ld h f fun g =>
  B.appW h 1 1 b g fun i h =>
  B.pv (V.bin .add a (.int .i64 1)) fun j =>
  Y1 [i, j] h)
  (Q b h)
@[simp] def zg.l2 (C : CSem) (N : zN) (Q : zQ) (a b : AVal) : zG
 | [d, c], h, Y1 => zg.k1 C N Q Y1 d a b c h
 | _, _, _ => False
@[simp] def zg.k3 (C : CSem) (N : zN) (Q : zQ) (Y2 : zL) (c d o e a : AVal) (h : za) : Prop :=
 B.pv (V.bin .lss a e) fun f =>
  B.cond f
  (B.pv (V.idxS 1 o a) fun g =>
  B.ld h g fun i =>
  B.pv (V.zj i) fun j =>
  B.pv (V.bin .add d j) fun b =>
  B.pv (V.bin .lss b (.int .i64 0)) fun k =>
  B.cond k
  (False)
  (B.pv (V.bin .add a (.int .i64 1)) fun l =>
  Y2 [b, l] h))
  (B.call C (N 444) [.nils, d] h fun m h =>
  B.pv (V.zj c) fun n =>
  zd (zg.l2 C N Q c n) [m, (.int .i64 0)] h)
@[simp] def zg.l4 (C : CSem) (N : zN) (Q : zQ) (c d a : AVal) : zG
 | [e, b], h, Y2 => zg.k3 C N Q Y2 c e d a b h
 | _, _, _ => False
@[simp] def zg.cps (C : CSem) (N : zN) (a : AVal) (h : za) (Q : zQ) : Prop :=
 B.pv (V.zj a) fun b =>
  zd (zg.l4 C N Q a a b) [(.int .i64 0), (.int .i64 0)] h
def zg.Imp (C : CSem) (N : zN) : Prop := im1 C (N 439) (zg.cps C N)
def zr.cps (C : CSem) (N : zN) (a b : AVal) (h : za) (Q : zQ) : Prop :=
 zmf.cps C (opsS 16 (.str []) 0) (N 445) a b h Q
def zr.Imp (C : CSem) (N : zN) : Prop := im2 C (N 442) (zr.cps C N)
@[simp] def zq.k1 (C : CSem) (N : zN) (Q : zQ) (Y1 : zL) (r c d a : AVal) (h : za) : Prop :=
 B.ld h c fun s =>
  B.pv (V.zj s) fun t =>
  B.pv (V.bin .lss a t) fun u =>
  B.cond u
  (B.ld h d fun e =>
  B.ld h c fun f =>
  B.pv (V.zf1 1 f (some a) none) fun g =>
  B.pv (V.zj g) fun i =>
  B.pv (V.min2 e i) fun b =>
  B.ld h c fun j =>
  B.pv (V.bin .add a b) fun k =>
  B.pv (V.bin .add a b) fun l =>
  B.pv (V.cut3 1 j a k l) fun m =>
  B.zkp h C r [m] fun n h =>
  B.pv (V.un .not n) fun o =>
  B.cond o
  (Q (.tup []) h)
  (B.ld h d fun p =>
  B.pv (V.bin .add a p) fun q =>
  Y1 [q] h))
  (Q (.tup []) h)
@[simp] def zq.l2 (C : CSem) (N : zN) (Q : zQ) (a b c : AVal) : zG
 | [d], h, Y1 => zq.k1 C N Q Y1 a b c d h
 | _, _, _ => False
@[simp] def zq.cps (C : CSem) (N : zN) (a b c : AVal) (h : za) (Q : zQ) : Prop :=
 zd (zq.l2 C N Q a b c) [(.int .i64 0)] h
def zq.Imp (C : CSem) (N : zN) : Prop := im3 C (N 443) (zq.cps C N)
def zbl.cps (C : CSem) (N : zN) (a b : AVal) (h : za) (Q : zQ) : Prop :=
 zhp.cps C (opsS 1 (.int .u8 0) 0) a b h Q
def zbl.Imp (C : CSem) (N : zN) : Prop := im2 C (N 444) (zbl.cps C N)
def zba.cps (C : CSem) (N : zN) (a b : AVal) (h : za) (Q : zQ) : Prop :=
 zfb.cps C (opsS 16 (.str []) 0) a b h Q
def zba.Imp (C : CSem) (N : zN) : Prop := im2 C (N 445) (zba.cps C N)
@[simp] def zb2.k1 (C : CSem) (N : zN) (Q : zQ) (Y1 : zL) (f g i b : AVal) (h : za) : Prop :=
 B.pv (V.bin .lss b i) fun j =>
  B.cond j
  (B.pv (V.idxS 3 g b) fun k =>
  B.ldn h k 3 fun l =>
  B.pv (V.setN 0 3 l (.agg [.int .i64 0, .int .i64 0, .int .i64 0])) fun a =>
  B.al a (B.pv (V.zf 0 a) fun m =>
  B.call C (N 50) [f, m, (.int .i64 8)] h fun n h =>
  B.al a (B.pv (V.zf 1 a) fun o =>
  B.call C (N 50) [n, o, (.int .i64 8)] h fun p h =>
  B.al a (B.pv (V.zf 2 a) fun c =>
  B.call C (N 50) [p, c, (.int .i64 8)] h fun d h =>
  B.pv (V.bin .add b (.int .i64 1)) fun e =>
  Y1 [d, e] h))))
  (Q (.tup [f, (.int .i64 0)]) h)
@[simp] def zb2.l2 (C : CSem) (N : zN) (Q : zQ) (a b : AVal) : zG
 | [d, c], h, Y1 => zb2.k1 C N Q Y1 d a b c h
 | _, _, _ => False
@[simp] def zb2.k3 (C : CSem) (N : zN) (Q : zQ) (g a : AVal) (h : za) : Prop :=
 B.al a (B.pv (V.zf 6 a) fun c =>
  B.pv (V.zj c) fun d =>
  B.call C (N 50) [g, d, (.int .i64 2)] h fun e h =>
  B.al a (B.pv (V.zf 6 a) fun b =>
  B.pv (V.zj b) fun f =>
  zd (zb2.l2 C N Q b f) [e, (.int .i64 0)] h))
@[simp] def zb2.k4 (C : CSem) (N : zN) (Q : zQ) (Y2 : zL) (f g i b x : AVal) (h : za) : Prop :=
 B.pv (V.bin .lss b i) fun j =>
  B.cond j
  (B.pv (V.idxS 6 g b) fun k =>
  B.ldn h k 6 fun l =>
  B.pv (V.setN 0 6 l (.agg [.int .i64 0, .str [], .int .i64 0, .int .i64 0, .int .i64 0, .bool false])) fun a =>
  B.al a (B.pv (V.zf 0 a) fun m =>
  B.call C (N 50) [f, m, (.int .i64 8)] h fun n h =>
  B.al a (B.pv (V.zf 1 a) fun o =>
  B.call C (N 51) [o] h fun p h =>
  B.appW h 1 1 n p fun q h =>
  B.al a (B.al a (B.pv (V.zf 2 a) fun r =>
  B.call C (N 50) [q, r, (.int .i64 2)] h fun s h =>
  B.al a (B.al a (B.pv (V.zf 3 a) fun t =>
  B.call C (N 50) [s, t, (.int .i64 2)] h fun u h =>
  B.al a (B.pv (V.zf 4 a) fun v =>
  B.call C (N 50) [u, v, (.int .i64 8)] h fun e h =>
  B.al a (B.pv (V.zf 5 a) fun w =>
  B.cond w
  (B.call C (N 50) [e, (.int .i64 1), (.int .i64 1)] h fun c h =>
  B.pv (V.bin .add b (.int .i64 1)) fun d =>
  Y2 [c, d] h)
  (B.call C (N 50) [e, (.int .i64 0), (.int .i64 1)] h fun c h =>
  B.pv (V.bin .add b (.int .i64 1)) fun d =>
  Y2 [c, d] h))))))))))
  (zb2.k3 C N Q f x h)
@[simp] def zb2.l5 (C : CSem) (N : zN) (Q : zQ) (a b d : AVal) : zG
 | [e, c], h, Y2 => zb2.k4 C N Q Y2 e a b c d h
 | _, _, _ => False
@[simp] def zb2.k6 (C : CSem) (N : zN) (Q : zQ) (g a : AVal) (h : za) : Prop :=
 B.al a (B.pv (V.zf 5 a) fun c =>
  B.pv (V.zj c) fun d =>
  B.call C (N 50) [g, d, (.int .i64 2)] h fun e h =>
  B.al a (B.pv (V.zf 5 a) fun b =>
  B.pv (V.zj b) fun f =>
  zd (zb2.l5 C N Q b f a) [e, (.int .i64 0)] h))
@[simp] def zb2.k7 (C : CSem) (N : zN) (Q : zQ) (e a : AVal) (h : za) : Prop :=
 B.al a (B.pv (V.zf 4 a) fun b =>
  B.newO h (zc0 [(0, none, b)] (repL 1 [.int .u8 0])) fun c h =>
  B.appW h 1 1 e (.sl c 0 0 1 1 1) fun d h =>
  zb2.k6 C N Q d a h)
@[simp] def zb2.k8 (C : CSem) (N : zN) (Q : zQ) (i a : AVal) (h : za) : Prop :=
 B.al a (B.pv (V.zf 2 a) fun b =>
  B.pv (V.bin .add b (.int .i64 1)) fun c =>
  B.call C (N 50) [i, c, (.int .i64 2)] h fun d h =>
  B.al a (B.pv (V.zf 3 a) fun e =>
  B.call C (N 51) [e] h fun f h =>
  B.appW h 1 1 d f fun g h =>
  zb2.k7 C N Q g a h))
@[simp] def zb2.k9 (C : CSem) (N : zN) (Q : zQ) (b a : AVal) (h : za) : Prop :=
 B.al a (B.pv (V.zf 0 a) fun c =>
  B.pv (V.bin .gtr c (.int .i64 0)) fun d =>
  B.cond d
  (Q (.tup [b, (.int .i64 0)]) h)
  (B.al a (B.pv (V.zf 1 a) fun e =>
  B.call C (N 50) [b, e, (.int .i64 8)] h fun f h =>
  zb2.k8 C N Q f a h)))
@[simp] def zb2.k10 (C : CSem) (N : zN) (Q : zQ) (a : AVal) (h : za) : Prop :=
 B.pv (V.zbv 0 7 a) fun b =>
  B.call C (N 29) [b] h fun c h =>
  B.pv (V.un .not c) fun d =>
  B.cond d
  (Q (.tup [.nils, (.int .i64 2)]) h)
  (B.al a (B.pv (V.zf 0 a) fun e =>
  B.call C (N 50) [.nils, e, (.int .i64 2)] h fun f h =>
  zb2.k9 C N Q f a h))
@[simp] def zb2.cps (C : CSem) (N : zN) (a : AVal) (h : za) (Q : zQ) : Prop :=
 B.pv (A.boxN 7 a) fun b =>
  zb2.k10 C N Q b h
def zb2.Imp (C : CSem) (N : zN) : Prop := im1 C (N 28) (zb2.cps C N)
@[simp] def zbw.k1 (C : CSem) (N : zN) (Q : zQ) (Y1 : zL) (e f c : AVal) (h : za) : Prop :=
 B.pv (V.bin .lss c f) fun g =>
  B.cond g
  (B.pv (V.idxS 3 e c) fun i =>
  B.ldn h i 3 fun j =>
  B.pv (V.setN 0 3 j (.agg [.int .i64 0, .int .i64 0, .int .i64 0])) fun d =>
  B.al d (B.pv (V.zf 0 d) fun k =>
  B.pv (V.bin .lss k (.int .i64 0)) fun a =>
  B.al d (B.gd h a false (fun K => K .undef h) fun _ h =>
  B.gd h a false (fun K => B.pv (V.zf 1 d) fun v => K v h) fun l h =>
  B.gd h a false (fun K => B.pv (V.bin .lss l (.int .i64 1)) fun v => K v h) fun m h =>
  B.pick a (.bool true) m fun b =>
  B.al d (B.gd h b false (fun K => K .undef h) fun _ h =>
  B.gd h b false (fun K => B.pv (V.zf 2 d) fun v => K v h) fun n h =>
  B.gd h b false (fun K => B.pv (V.bin .lss n (.int .i64 1)) fun v => K v h) fun o h =>
  B.pick b (.bool true) o fun p =>
  B.cond p
  (Q (.bool false) h)
  (B.pv (V.bin .add c (.int .i64 1)) fun q =>
  Y1 [q] h)))))
  (Q (.bool true) h)
@[simp] def zbw.l2 (C : CSem) (N : zN) (Q : zQ) (a b : AVal) : zG
 | [c], h, Y1 => zbw.k1 C N Q Y1 a b c h
 | _, _, _ => False
@[simp] def zbw.k3 (C : CSem) (N : zN) (Q : zQ) (Y2 : zL) (g i a j : AVal) (h : za) : Prop :=
 B.pv (V.bin .lss a i) fun k =>
  B.cond k
  (B.pv (V.idxS 6 g a) fun l =>
  B.ldn h l 6 fun m =>
  B.pv (V.setN 0 6 m (.agg [.int .i64 0, .str [], .int .i64 0, .int .i64 0, .int .i64 0, .bool false])) fun o =>
  B.pv (V.zbv 0 6 o) fun n =>
  B.call C (N 52) [n] h fun c h =>
  B.pv (V.un .not c) fun d =>
  B.cond d
  (Q (.bool false) h)
  (B.pv (V.bin .add a (.int .i64 1)) fun e =>
  Y2 [e] h))
  (B.al j (B.pv (V.zf 6 j) fun b =>
  B.pv (V.zj b) fun f =>
  zd (zbw.l2 C N Q b f) [(.int .i64 0)] h))
@[simp] def zbw.l4 (C : CSem) (N : zN) (Q : zQ) (a b d : AVal) : zG
 | [c], h, Y2 => zbw.k3 C N Q Y2 a b c d h
 | _, _, _ => False
@[simp] def zbw.k5 (C : CSem) (N : zN) (Q : zQ) (v3 a : AVal) (h : za) : Prop :=
 B.al a (B.pv (V.zf 0 a) fun l =>
  B.pv (V.bin .lss l (.int .i64 0)) fun f =>
  B.al a (B.gd h f false (fun K => K .undef h) fun _ h =>
  B.gd h f false (fun K => B.pv (V.zf 0 a) fun v => K v h) fun m h =>
  B.gd h f false (fun K => B.pv (V.bin .gtr m (.int .i64 999)) fun v => K v h) fun n h =>
  B.pick f (.bool true) n fun o =>
  B.cond o
  (Q (.bool false) h)
  (B.al a (B.pv (V.zf 0 a) fun p =>
  B.pv (V.bin .gtr p (.int .i64 0)) fun q =>
  B.cond q
  (Q v3 h)
  (B.al a (B.pv (V.zf 1 a) fun r =>
  B.pv (V.bin .lss r (.int .i64 0)) fun g =>
  B.al a (B.gd h g false (fun K => K .undef h) fun _ h =>
  B.gd h g false (fun K => B.pv (V.zf 2 a) fun v => K v h) fun s h =>
  B.gd h g false (fun K => B.pv (V.bin .lss s (.int .i64 (-1))) fun v => K v h) fun t h =>
  B.pick g (.bool true) t fun i =>
  B.al a (B.gd h i false (fun K => K .undef h) fun _ h =>
  B.gd h i false (fun K => B.pv (V.zf 2 a) fun v => K v h) fun u h =>
  B.gd h i false (fun K => B.pv (V.bin .gtr u (.int .i64 4000)) fun v => K v h) fun w h =>
  B.pick i (.bool true) w fun b =>
  B.al a (B.gd h b false (fun K => K .undef h) fun _ h =>
  B.gd h b false (fun K => B.pv (V.zf 3 a) fun v => K v h) fun x h =>
  B.gd h b false (fun K => B.pv (V.bin .neq x (.str [])) fun v => K v h) fun y h =>
  B.gd h b false (fun K => K y h) fun c h =>
  B.al a (B.gd h c true (fun K => K .undef h) fun _ h =>
  B.gd h c true (fun K => B.pv (V.zf 3 a) fun v => K v h) fun z h =>
  B.gd h c true (fun K => B.call C (N 53) [z] h K) fun aa h =>
  B.gd h c true (fun K => B.pv (V.un .not aa) fun v => K v h) fun ab h =>
  B.gd h b false (fun K => B.pick c ab (.bool false) fun v => K v h) fun ac h =>
  B.pick b (.bool true) ac fun j =>
  B.al a (B.gd h j false (fun K => K .undef h) fun _ h =>
  B.gd h j false (fun K => B.pv (V.zf 4 a) fun v => K v h) fun ad h =>
  B.gd h j false (fun K => B.pv (V.bin .gtr ad (.int .u8 3)) fun v => K v h) fun ae h =>
  B.pick j (.bool true) ae fun d =>
  B.al a (B.gd h d false (fun K => K .undef h) fun _ h =>
  B.gd h d false (fun K => B.pv (V.zf 5 a) fun v => K v h) fun af h =>
  B.gd h d false (fun K => B.pv (V.zj af) fun v => K v h) fun ag h =>
  B.gd h d false (fun K => B.pv (V.bin .gtr ag (.int .i64 300)) fun v => K v h) fun ah h =>
  B.pick d (.bool true) ah fun e =>
  B.al a (B.gd h e false (fun K => K .undef h) fun _ h =>
  B.gd h e false (fun K => B.pv (V.zf 6 a) fun v => K v h) fun ai h =>
  B.gd h e false (fun K => B.pv (V.zj ai) fun v => K v h) fun aj h =>
  B.gd h e false (fun K => B.pv (V.bin .gtr aj (.int .i64 2000)) fun v => K v h) fun ak h =>
  B.pick e (.bool true) ak fun am =>
  B.cond am
  (Q (.bool false) h)
  (B.al a (B.pv (V.zf 5 a) fun k =>
  B.pv (V.zj k) fun an =>
  zd (zbw.l4 C N Q k an a) [(.int .i64 0)] h)))))))))))))))
@[simp] def zbw.k6 (C : CSem) (N : zN) (Q : zQ) (b : AVal) (h : za) : Prop :=
 B.al b (B.pv (V.zf 1 b) fun t =>
  B.pv (V.bin .eql t (.int .i64 0)) fun c =>
  B.al b (B.gd h c true (fun K => K .undef h) fun _ h =>
  B.gd h c true (fun K => B.pv (V.zf 2 b) fun v => K v h) fun f h =>
  B.gd h c true (fun K => B.pv (V.bin .eql f (.int .i64 0)) fun v => K v h) fun g h =>
  B.pick c g (.bool false) fun d =>
  B.al b (B.gd h d true (fun K => K .undef h) fun _ h =>
  B.gd h d true (fun K => B.pv (V.zf 3 b) fun v => K v h) fun i h =>
  B.gd h d true (fun K => B.pv (V.bin .eql i (.str [])) fun v => K v h) fun j h =>
  B.pick d j (.bool false) fun e =>
  B.al b (B.gd h e true (fun K => K .undef h) fun _ h =>
  B.gd h e true (fun K => B.pv (V.zf 4 b) fun v => K v h) fun k h =>
  B.gd h e true (fun K => B.pv (V.bin .eql k (.int .u8 0)) fun v => K v h) fun l h =>
  B.pick e l (.bool false) fun a =>
  B.al b (B.gd h a true (fun K => K .undef h) fun _ h =>
  B.gd h a true (fun K => B.pv (V.zf 5 b) fun v => K v h) fun m h =>
  B.gd h a true (fun K => B.pv (V.zj m) fun v => K v h) fun n h =>
  B.al b (B.gd h a true (fun K => K .undef h) fun _ h =>
  B.gd h a true (fun K => B.pv (V.zf 6 b) fun v => K v h) fun o h =>
  B.gd h a true (fun K => B.pv (V.zj o) fun v => K v h) fun p h =>
  B.gd h a true (fun K => B.pv (V.bin .add n p) fun v => K v h) fun q h =>
  B.gd h a true (fun K => B.pv (V.bin .eql q (.int .i64 0)) fun v => K v h) fun r h =>
  B.pick a r (.bool false) fun s =>
  zbw.k5 C N Q s b h))))))
@[simp] def zbw.cps (C : CSem) (N : zN) (a : AVal) (h : za) (Q : zQ) : Prop :=
 B.pv (A.boxN 7 a) fun b =>
  zbw.k6 C N Q b h
def zbw.Imp (C : CSem) (N : zN) : Prop := im1 C (N 29) (zbw.cps C N)
@[simp] def zdx.k1 (C : CSem) (N : zN) (Q : zQ) (b d e : AVal) (h : za) : Prop :=
 B.nilCheck d fun f =>
  B.pv (V.fieldAddr 2 f) fun g =>
  B.ld h g fun a =>
  B.gd h a false (fun K => B.pv (V.zbv 0 7 e) fun v => K v h) fun i h =>
  B.gd h a false (fun K => B.call C (N 29) [i] h K) fun j h =>
  B.gd h a false (fun K => B.pv (V.un .not j) fun v => K v h) fun k h =>
  B.pick a (.bool true) k fun l =>
  B.cond l
  (B.pv (A.bld [] [.int .i64 0, .int .i64 0, .int .i64 0, .str [], .int .u8 0, .nils, .nils]) fun m =>
  B.stn h b 7 m fun h =>
  B.pv (oneOf (ze4 (A.ldnv h b 7) (ze4 (some (.int .i64 0)) (ze4 (some (.int .i64 4)) (some []))))) fun v => Q v h)
  (B.pv (V.zbv 0 7 e) fun n =>
  B.nilCheck d fun o =>
  B.pv (V.fieldAddr 1 o) fun c =>
  B.ld h c fun p =>
  (fun K => B.stn h b 7 n fun h => K .undef h) (B.zkm h [(c, none)] (fun _ h => B.pv (oneOf (ze4 (A.ldnv h b 7) (ze4 (some p) (ze4 (some (.int .i64 0)) (some []))))) fun v => Q v h)))
@[simp] def zdx.k2 (C : CSem) (N : zN) (Q : zQ) (c b a : AVal) (h : za) : Prop :=
 B.al a (B.pv (V.zf 0 a) fun d =>
  B.pv (V.bin .eql d (.int .i64 0)) fun e =>
  B.cond e
  (B.call C (N 65) [b, (.int .i64 8)] h fun f h =>
  B.al a (B.pv (V.setF 1 f a) fun a =>
  B.call C (N 65) [b, (.int .i64 2)] h fun g h =>
  B.pv (V.bin .sub g (.int .i64 1)) fun i =>
  B.al a (B.pv (V.setF 2 i a) fun a =>
  B.call C (N 66) [b] h fun j h =>
  B.al a (B.pv (V.setF 3 j a) fun a =>
  B.call C (N 65) [b, (.int .i64 1)] h fun k h =>
  B.pv (V.toInt .u8 k) fun l =>
  B.al a (B.pv (V.setF 4 l a) fun a =>
  B.call C (N 68) [b, (.fn (N 67) [b] [])] h fun m h =>
  B.al a (B.pv (V.setF 5 m a) fun a =>
  B.call C (N 70) [b, (.fn (N 69) [b] [])] h fun n h =>
  B.al a (B.pv (V.setF 6 n a) fun a =>
  zdx.k1 C N Q c b a h)))))))
  (zdx.k1 C N Q c b a h))
@[simp] def zdx.k3 (C : CSem) (N : zN) (Q : zQ) (d a : AVal) (h : za) : Prop :=
 B.call C (N 65) [a, (.int .i64 2)] h fun b h =>
  B.pv (A.bld [(0, none, b)] [.int .i64 0, .int .i64 0, .int .i64 0, .str [], .int .u8 0, .nils, .nils]) fun c =>
  B.pv (V.setN 0 7 c (.agg [.int .i64 0, .int .i64 0, .int .i64 0, .str [], .int .u8 0, .nils, .nils])) fun e =>
  zdx.k2 C N Q d a e h
@[simp] def zdx.k4 (C : CSem) (N : zN) (Q : zQ) (a : AVal) (h : za) : Prop :=
 B.newO h (some [.int .i64 0, .int .i64 0, .int .i64 0, .str [], .int .u8 0, .nils, .nils]) fun b h =>
  B.pv (A.bld [(0, none, a)] [.nils, .int .i64 0, .bool false]) fun c =>
  B.newO h (A.zjr 3 c) fun d h =>
  zdx.k3 C N Q (.ptr b 0 0) (.ptr d 0 0) h
@[simp] def zdx.cps (C : CSem) (N : zN) (a : AVal) (h : za) (Q : zQ) : Prop :=
 zdx.k4 C N Q a h
def zdx.Imp (C : CSem) (N : zN) : Prop := im1 C (N 38) (zdx.cps C N)
@[simp] def ze8.k1 (C : CSem) (N : zN) (Q : zQ) (Y1 : zL) (b k a : AVal) (h : za) : Prop :=
 B.pv (V.bin .geq a (.int .i64 0)) fun c =>
  B.cond c
  (B.pv (V.bin .mul (.int .i64 8) a) fun d =>
  B.pv (V.bin .shr k d) fun e =>
  B.pv (V.toInt .u8 e) fun f =>
  B.newO h (zc0 [(0, none, f)] (repL 1 [.int .u8 0])) fun g h =>
  B.appW h 1 1 b (.sl g 0 0 1 1 1) fun i h =>
  B.pv (V.bin .sub a (.int .i64 1)) fun j =>
  Y1 [i, j] h)
  (Q b h)
@[simp] def ze8.l2 (C : CSem) (N : zN) (Q : zQ) (a : AVal) : zG
 | [b, c], h, Y1 => ze8.k1 C N Q Y1 b a c h
 | _, _, _ => False
@[simp] def ze8.cps (C : CSem) (N : zN) (a b c : AVal) (h : za) (Q : zQ) : Prop :=
 B.pv (V.bin .sub c (.int .i64 1)) fun d =>
  zd (ze8.l2 C N Q b) [a, d] h
def ze8.Imp (C : CSem) (N : zN) : Prop := im3 C (N 50) (ze8.cps C N)
@[simp] def zn.k1 (C : CSem) (N : zN) (Q : zQ) (a i j : AVal) (h : za) : Prop :=
 B.nilCheck a fun b =>
  B.pv (V.fieldAddr 1 b) fun c =>
  B.ld h c fun d =>
  B.pv (V.bin .add d i) fun e =>
  B.nilCheck a fun f =>
  B.pv (V.fieldAddr 1 f) fun g =>
  B.st h g e fun h =>
  Q j h
@[simp] def zn.k2 (C : CSem) (N : zN) (Q : zQ) (Y1 : zL) (m n b c d a : AVal) (h : za) : Prop :=
 B.pv (V.bin .lss a d) fun e =>
  B.cond e
  (B.pv (V.idxS 1 c a) fun f =>
  B.ld h f fun g =>
  B.pv (V.bin .shl b (.int .u64 8)) fun i =>
  B.pv (V.toInt .i64 g) fun j =>
  B.pv (V.bin .or i j) fun k =>
  B.pv (V.bin .add a (.int .i64 1)) fun l =>
  Y1 [k, l] h)
  (zn.k1 C N Q m n b h)
@[simp] def zn.l3 (C : CSem) (N : zN) (Q : zQ) (d e a b : AVal) : zG
 | [f, c], h, Y1 => zn.k2 C N Q Y1 d e f a b c h
 | _, _, _ => False
@[simp] def zn.k4 (C : CSem) (N : zN) (Q : zQ) (a c p : AVal) (h : za) : Prop :=
 B.nilCheck a fun d =>
  B.pv (V.fieldAddr 0 d) fun e =>
  B.ld h e fun f =>
  B.nilCheck a fun g =>
  B.pv (V.fieldAddr 1 g) fun i =>
  B.ld h i fun j =>
  B.nilCheck a fun k =>
  B.pv (V.fieldAddr 1 k) fun l =>
  B.ld h l fun m =>
  B.pv (V.bin .add m c) fun n =>
  B.pv (V.zf1 1 f (some j) (some n)) fun b =>
  B.pv (V.zj b) fun o =>
  zd (zn.l3 C N Q a c b o) [p, (.int .i64 0)] h
@[simp] def zn.k5 (C : CSem) (N : zN) (Q : zQ) (b c : AVal) (h : za) : Prop :=
 B.nilCheck b fun d =>
  B.pv (V.fieldAddr 2 d) fun e =>
  B.ld h e fun a =>
  B.gd h a false (fun K => K c h) fun f h =>
  B.gd h a false (fun K => K b h) fun g h =>
  B.gd h a false (fun K => B.nilCheck g fun v => K v h) fun i h =>
  B.gd h a false (fun K => B.pv (V.fieldAddr 0 i) fun v => K v h) fun j h =>
  B.gd h a false (fun K => B.ld h j fun v => K v h) fun k h =>
  B.gd h a false (fun K => B.pv (V.zj k) fun v => K v h) fun l h =>
  B.gd h a false (fun K => K b h) fun m h =>
  B.gd h a false (fun K => B.nilCheck m fun v => K v h) fun n h =>
  B.gd h a false (fun K => B.pv (V.fieldAddr 1 n) fun v => K v h) fun o h =>
  B.gd h a false (fun K => B.ld h o fun v => K v h) fun p h =>
  B.gd h a false (fun K => B.pv (V.bin .sub l p) fun v => K v h) fun q h =>
  B.gd h a false (fun K => B.pv (V.bin .gtr f q) fun v => K v h) fun r h =>
  B.pick a (.bool true) r fun s =>
  B.nilCheck b fun t =>
  B.pv (V.fieldAddr 2 t) fun u =>
  B.st h u s fun h =>
  B.nilCheck b fun w =>
  B.pv (V.fieldAddr 2 w) fun x =>
  B.ld h x fun y =>
  B.cond y
  (Q (.int .i64 0) h)
  (zn.k4 C N Q b c (.int .i64 0) h)
@[simp] def zn.cps (C : CSem) (N : zN) (a b : AVal) (h : za) (Q : zQ) : Prop :=
 zn.k5 C N Q a b h
def zn.Imp (C : CSem) (N : zN) : Prop := im2 C (N 65) (zn.cps C N)
@[simp] def zb0.k1 (C : CSem) (N : zN) (Q : zQ) (a : AVal) (h : za) : Prop :=
 B.nilCheck a fun w =>
  B.pv (V.fieldAddr 2 w) fun x =>
  B.ld h x fun y =>
  B.cond y
  (Q (.str []) h)
  (B.nilCheck a fun c =>
  B.pv (V.fieldAddr 0 c) fun d =>
  B.ld h d fun e =>
  B.nilCheck a fun f =>
  B.pv (V.fieldAddr 1 f) fun g =>
  B.ld h g fun i =>
  B.pv (V.zf1 1 e (some i) none) fun j =>
  B.call C (N 103) [j] h fun b h =>
  B.pv (V.ext 0 b) fun k =>
  B.pv (V.ext 1 b) fun l =>
  B.pv (V.ext 2 b) fun m =>
  B.pv (V.un .not m) fun n =>
  B.nilCheck a fun o =>
  B.pv (V.fieldAddr 2 o) fun p =>
  B.st h p n fun h =>
  B.nilCheck a fun q =>
  B.pv (V.fieldAddr 1 q) fun r =>
  B.ld h r fun s =>
  B.pv (V.bin .add s l) fun t =>
  B.nilCheck a fun u =>
  B.pv (V.fieldAddr 1 u) fun v =>
  B.st h v t fun h =>
  Q k h)
@[simp] def zb0.cps (C : CSem) (N : zN) (a : AVal) (h : za) (Q : zQ) : Prop :=
 zb0.k1 C N Q a h
def zb0.Imp (C : CSem) (N : zN) : Prop := im1 C (N 66) (zb0.cps C N)
@[simp] def zcg.k1 (C : CSem) (N : zN) (Q : zQ) (b : AVal) (h : za) : Prop :=
 B.call C (N 65) [b, (.int .i64 8)] h fun r h =>
  B.call C (N 66) [b] h fun s h =>
  B.pv (A.bld [(0, none, r), (1, none, s)] [.int .i64 0, .str [], .int .i64 0, .int .i64 0, .int .i64 0, .bool false]) fun t =>
  B.pv (V.setN 0 6 t (.agg [.int .i64 0, .str [], .int .i64 0, .int .i64 0, .int .i64 0, .bool false])) fun a =>
  B.call C (N 65) [b, (.int .i64 2)] h fun e h =>
  B.call C (N 65) [b, (.int .i64 2)] h fun f h =>
  B.al a (B.al a (B.pv (V.setF 2 e a) fun a =>
  B.al a (B.al a (B.pv (V.setF 3 f a) fun a =>
  B.call C (N 65) [b, (.int .i64 8)] h fun g h =>
  B.al a (B.pv (V.setF 4 g a) fun a =>
  B.call C (N 65) [b, (.int .i64 1)] h fun d h =>
  B.pv (V.bin .eql d (.int .i64 1)) fun i =>
  B.al a (B.pv (V.setF 5 i a) fun a =>
  B.nilCheck b fun j =>
  B.pv (V.fieldAddr 2 j) fun k =>
  B.ld h k fun c =>
  B.gd h c false (fun K => K d h) fun l h =>
  B.gd h c false (fun K => B.pv (V.bin .gtr l (.int .i64 1)) fun v => K v h) fun m h =>
  B.pick c (.bool true) m fun n =>
  B.nilCheck b fun o =>
  B.pv (V.fieldAddr 2 o) fun p =>
  B.st h p n fun h =>
  B.pv (V.zbv 0 6 a) fun q =>
  B.pv (V.setN 0 6 q (.agg [.int .i64 0, .str [], .int .i64 0, .int .i64 0, .int .i64 0, .bool false])) fun u =>
  B.pv (oneOf (ze4 (V.zbv 0 6 u) (some []))) fun v => Q v h))))))
@[simp] def zcg.cps (C : CSem) (N : zN) (a : AVal) (h : za) (Q : zQ) : Prop :=
 zcg.k1 C N Q a h
def zcg.Imp (C : CSem) (N : zN) : Prop := im1 C (N 67) (zcg.cps C N)
@[simp] def zbi.k1 (C : CSem) (N : zN) (Q : zQ) (Y1 : zL) (o p b c : AVal) (h : za) : Prop :=
 B.pv (V.bin .gtr c (.int .i64 0)) fun a =>
  B.gd h a true (fun K => K o h) fun d h =>
  B.gd h a true (fun K => B.nilCheck d fun v => K v h) fun e h =>
  B.gd h a true (fun K => B.pv (V.fieldAddr 2 e) fun v => K v h) fun f h =>
  B.gd h a true (fun K => B.ld h f fun v => K v h) fun g h =>
  B.gd h a true (fun K => B.pv (V.un .not g) fun v => K v h) fun i h =>
  B.pick a i (.bool false) fun j =>
  B.cond j
  (B.zkp h C p [] fun k h =>
  B.newO h (zc0 [(0, some 6, k)] (repL 1 [.int .i64 0, .str [], .int .i64 0, .int .i64 0, .int .i64 0, .bool false])) fun l h =>
  B.appW h 6 56 b (.sl l 0 0 1 6 1) fun m h =>
  B.pv (V.bin .sub c (.int .i64 1)) fun n =>
  Y1 [m, n] h)
  (Q b h)
@[simp] def zbi.l2 (C : CSem) (N : zN) (Q : zQ) (a b : AVal) : zG
 | [c, d], h, Y1 => zbi.k1 C N Q Y1 a b c d h
 | _, _, _ => False
@[simp] def zbi.cps (C : CSem) (N : zN) (a b : AVal) (h : za) (Q : zQ) : Prop :=
 B.call C (N 65) [a, (.int .i64 2)] h fun c h =>
  zd (zbi.l2 C N Q a b) [.nils, c] h
def zbi.Imp (C : CSem) (N : zN) : Prop := im2 C (N 68) (zbi.cps C N)
@[simp] def zcf.k1 (C : CSem) (N : zN) (Q : zQ) (a : AVal) (h : za) : Prop :=
 B.call C (N 65) [a, (.int .i64 8)] h fun b h =>
  B.call C (N 65) [a, (.int .i64 8)] h fun c h =>
  B.call C (N 65) [a, (.int .i64 8)] h fun d h =>
  B.pv (A.bld [(0, none, b), (1, none, c), (2, none, d)] [.int .i64 0, .int .i64 0, .int .i64 0]) fun e =>
  B.pv (V.setN 0 3 e (.agg [.int .i64 0, .int .i64 0, .int .i64 0])) fun f =>
  B.pv (oneOf (ze4 (V.zbv 0 3 f) (some []))) fun v => Q v h
@[simp] def zcf.cps (C : CSem) (N : zN) (a : AVal) (h : za) (Q : zQ) : Prop :=
 zcf.k1 C N Q a h
def zcf.Imp (C : CSem) (N : zN) : Prop := im1 C (N 69) (zcf.cps C N)
@[simp] def zbh.k1 (C : CSem) (N : zN) (Q : zQ) (Y1 : zL) (o p b c : AVal) (h : za) : Prop :=
 B.pv (V.bin .gtr c (.int .i64 0)) fun a =>
  B.gd h a true (fun K => K o h) fun d h =>
  B.gd h a true (fun K => B.nilCheck d fun v => K v h) fun e h =>
  B.gd h a true (fun K => B.pv (V.fieldAddr 2 e) fun v => K v h) fun f h =>
  B.gd h a true (fun K => B.ld h f fun v => K v h) fun g h =>
  B.gd h a true (fun K => B.pv (V.un .not g) fun v => K v h) fun i h =>
  B.pick a i (.bool false) fun j =>
  B.cond j
  (B.zkp h C p [] fun k h =>
  B.newO h (zc0 [(0, some 3, k)] (repL 1 [.int .i64 0, .int .i64 0, .int .i64 0])) fun l h =>
  B.appW h 3 24 b (.sl l 0 0 1 3 1) fun m h =>
  B.pv (V.bin .sub c (.int .i64 1)) fun n =>
  Y1 [m, n] h)
  (Q b h)
@[simp] def zbh.l2 (C : CSem) (N : zN) (Q : zQ) (a b : AVal) : zG
 | [c, d], h, Y1 => zbh.k1 C N Q Y1 a b c d h
 | _, _, _ => False
@[simp] def zbh.cps (C : CSem) (N : zN) (a b : AVal) (h : za) (Q : zQ) : Prop :=
 B.call C (N 65) [a, (.int .i64 2)] h fun c h =>
  zd (zbh.l2 C N Q a b) [.nils, c] h
def zbh.Imp (C : CSem) (N : zN) : Prop := im2 C (N 70) (zbh.cps C N)
@[simp] def zdl.k1 (C : CSem) (N : zN) (Q : zQ) (j : AVal) (h : za) : Prop :=
 B.pv (A.boxN 2 j) fun a =>
  B.al a (B.pv (V.zf 0 a) fun k =>
  B.pv (V.bin .leq (.int .i64 0) k) fun c =>
  B.al a (B.gd h c true (fun K => K .undef h) fun _ h =>
  B.gd h c true (fun K => B.pv (V.zf 0 a) fun v => K v h) fun l h =>
  B.al a (B.gd h c true (fun K => K .undef h) fun _ h =>
  B.gd h c true (fun K => B.pv (V.zf 1 a) fun v => K v h) fun d h =>
  B.gd h c true (fun K => B.pv (V.bin .leq l d) fun v => K v h) fun e h =>
  B.pick c e (.bool false) fun b =>
  B.al a (B.gd h b true (fun K => K .undef h) fun _ h =>
  B.gd h b true (fun K => B.pv (V.zf 1 a) fun v => K v h) fun f h =>
  B.gd h b true (fun K => B.pv (V.bin .leq f (.int .i64 4001)) fun v => K v h) fun g h =>
  B.pick b g (.bool false) fun i =>
  Q i h))))
@[simp] def zdl.cps (C : CSem) (N : zN) (a : AVal) (h : za) (Q : zQ) : Prop :=
 zdl.k1 C N Q a h
def zdl.Imp (C : CSem) (N : zN) : Prop := im1 C (N 5) (zdl.cps C N)
end Go.Ab
set_option maxRecDepth 100000
namespace Go.Ab.S16z
open Go.Ab Go.Proofs
noncomputable abbrev P : Program := Tryz.prog
def lkz : List (Nat × List Nat) -> Nat -> List Nat
 | [], _ => []
 | (a, b) :: r, k => bif Nat.beq a k then b else lkz r k
def pz (e : List (Nat × List Nat)) : Nat -> List (Nat × List Nat)
 | 0 => []
 | n + 1 => pz e n ++ [(n, lkz e n)]
@[reducible] def LkT (P : Program) (I : Bx) (f : Func) (F : CSem -> (zQ) -> zbd -> za -> Prop) : Prop := ∀ {C : CSem} (hC : zj4 C) (Q : zQ) (s : zbd) (h : za), F C Q s h -> bwp P C I (f.body.getD .skip) (retB P I f.results.toList Q) s h
theorem eT {P : Program} {C : CSem} {I : Bx} (hC : zj4 C) {c : Code} {Q : Ex -> zbd -> za -> Prop} {s : zbd} {h : za} (X : zbd -> za -> Prop) {p : Prop} (hR : p) (hb : ∀ s h, X s h -> bwp P C I (cB c) Q s h) (e : bwp P C I (cA c) (Ex.then X Q) s h = p := by kernel_rfl) (hk : isS c = true := by kernel_rfl) : bwp P C I c Q s h := eS hC X (e1 hR e) hb hk
@[reducible] def on1 (F : AVal -> zG) : List AVal -> zG
 | [a], u, v, w => F a u v w
 | _, _, _, _ => False
@[reducible] def on2 (F : AVal -> AVal -> zG) : List AVal -> zG
 | [a, b], u, v, w => F a b u v w
 | _, _, _, _ => False
@[reducible] def on3 (F : AVal -> AVal -> AVal -> zG) : List AVal -> zG
 | [a, b, c], u, v, w => F a b c u v w
 | _, _, _, _ => False
@[reducible] def on4 (F : AVal -> AVal -> AVal -> AVal -> zG) : List AVal -> zG
 | [a, b, c, d], u, v, w => F a b c d u v w
 | _, _, _, _ => False
@[reducible] def on5 (F : AVal -> AVal -> AVal -> AVal -> AVal -> zG) : List AVal -> zG
 | [a, b, c, d, e], u, v, w => F a b c d e u v w
 | _, _, _, _ => False
@[reducible] def on6 (F : AVal -> AVal -> AVal -> AVal -> AVal -> AVal -> zG) : List AVal -> zG
 | [a, b, c, d, e, f], u, v, w => F a b c d e f u v w
 | _, _, _, _ => False
@[reducible] def on9 (F : AVal -> AVal -> AVal -> AVal -> AVal -> AVal -> AVal -> AVal -> AVal -> zG) : List AVal -> zG
 | [a, b, c, d, e, f, g, i, j], u, v, w => F a b c d e f g i j u v w
 | _, _, _, _ => False
def N (k : Nat) : Nat := [0, 0, 0, 0, 0, 169, 0, 0, 0, 0, 0, 0, 0, 0, 0, 0, 0, 0, 180, 0, 167, 0, 0, 0, 0, 0, 0, 24, 83, 149, 28, 29, 90, 158, 33, 36, 0, 139, 87, 143, 144, 91, 32, 35, 0, 41, 0, 0, 44, 82, 150, 50, 103, 106, 52, 88, 55, 89, 159, 114, 112, 177, 64, 95, 140, 152, 153, 155, 154, 157, 156, 145, 160, 146, 79, 92, 94, 100, 148, 107, 116, 117, 118, 119, 120, 121, 122, 123, 124, 125, 126, 127, 128, 129, 130, 131, 132, 133, 134, 135, 136, 137, 138, 198, 199, 161, 179, 181, 182, 99, 109, 101, 183, 184, 185, 186, 22, 66, 62, 187, 188, 189, 190, 191, 192, 193, 194, 195, 196, 197, 201, 203, 173, 174, 78, 80, 210, 211, 212, 0, 0, 0, 0, 0, 0, 0, 0, 0, 0, 0, 0, 0, 0, 0, 0, 0, 0, 0, 0, 0, 0, 0, 0, 0, 0, 0, 0, 0, 0, 0, 0, 0, 0, 0, 0, 0, 0, 0, 0, 104, 113, 0, 0, 0, 0, 0, 45, 0, 0, 53, 56, 0, 0, 0, 0, 0, 0, 0, 0, 0, 0, 0, 0, 0, 0, 0, 0, 202, 0, 0, 0, 0, 0, 0, 0, 0, 0, 0, 0, 0, 0, 0, 0, 0, 0, 0, 0, 0, 0, 163, 0, 0, 0, 0, 0, 0, 0, 0, 0, 0, 0, 0, 0, 0, 0, 0, 0, 0, 0, 0, 0, 0, 0, 0, 17, 0, 0, 0, 19, 0, 0, 0, 0, 14, 0, 0, 0, 0, 0, 0, 0, 65, 0, 73, 67, 0, 0, 0, 0, 0, 75, 0, 0, 0, 0, 0, 0, 0, 0, 0, 0, 0, 0, 0, 0, 0, 0, 0, 0, 0, 0, 0, 0, 141, 0, 0, 40, 15, 0, 0, 0, 97, 63, 0, 0, 115, 0, 0, 0, 165, 0, 0, 0, 0, 171, 0, 0, 0, 0, 0, 0, 0, 0, 0, 0, 0, 0, 0, 0, 0, 0, 0, 0, 0, 0, 0, 0, 0, 0, 0, 0, 0, 0, 0, 162, 0, 0, 0, 0, 0, 0, 204, 0, 0, 0, 0, 0, 0, 214, 215, 0, 0, 0, 0, 0, 0, 0, 0, 0, 0, 0, 0, 0, 0, 0, 0, 0, 0, 0, 0, 0, 43, 51, 54, 0, 0, 0, 0, 0, 98, 108, 110, 0, 0, 0, 218, 166, 172, 175, 176, 0, 0, 10, 18, 26, 25, 7, 16, 8, 0, 96, 0, 39, 49, 48, 47, 46, 27, 85, 84, 72, 74, 68, 69, 70, 71, 86, 164, 102, 105, 142, 168, 205, 151, 170, 216, 9, 11, 12, 13, 3, 20, 21, 23, 4, 30, 31, 34, 5, 42, 38, 37, 6, 61, 60, 59, 58, 57, 76, 77, 81, 93, 111, 147, 178, 200, 206, 207, 208, 209, 213, 217].getD k 0
theorem mixed : P.follows .mixedOrders = true := by kernel_rfl
def zcb.I : Bx := ⟨[8, 11, 17, 19, 25], [31, 37, 43], 167, []⟩
theorem zcb.L : LkT P zcb.I Tryz.f5 fun C Q s h => zcb.cps C N (s 0) (s 1) (s 2) (s 3) (s 4) h Q := fun {C} hC Q s h hR => e1 hR
theorem zcb.imp : zcb.Imp (AC P) N := fun a b c d e h Q hR => eF mixed (fn := Tryz.f5) (fun hC => zcb.L hC (dn Q) (zbb [a, b, c, d, e]) h hR)
def zdv.I : Bx := ⟨[2, 6], [80], 90, [(7, pz [(28, [27])] 63)]⟩
theorem zdv.L : LkT P zdv.I Tryz.f8 fun C Q s h => zdv.cps C N h Q := fun {C} hC Q s h hR => e1 hR
theorem zdv.imp : zdv.Imp (AC P) N := fun h Q hR => eF mixed (fn := Tryz.f8) (fun hC => zdv.L hC (dn Q) (zbb []) h hR)
def zw.I : Bx := ⟨[1, 6, 9, 13, 16], [24, 32, 40, 45, 52, 55, 61, 69, 72, 79, 86, 100, 107, 115, 122, 127, 130, 131, 134, 135, 138, 145, 155, 160, 163, 166, 169, 172, 175, 179], 186, [(11, [(0, []), (1, []), (3, []), (4, []), (5, []), (6, []), (2, [4]), (7, []), (8, []), (9, [])]), (15, [(0, []), (1, []), (2, []), (4, []), (5, []), (3, [5]), (6, []), (7, []), (8, []), (9, [])]), (31, [(0, []), (3, []), (4, []), (8, []), (9, []), (11, []), (12, []), (13, []), (15, []), (16, []), (17, []), (19, []), (20, []), (22, []), (5, [9, 13, 17, 20]), (1, []), (2, []), (6, []), (7, [9, 13, 17, 20]), (10, [13, 17, 20]), (14, [17, 20]), (18, [20]), (21, []), (23, []), (24, [])]), (36, [(0, []), (3, []), (4, []), (8, []), (9, []), (11, []), (12, []), (14, []), (15, []), (17, []), (18, []), (19, []), (20, []), (21, []), (23, []), (24, []), (25, []), (27, []), (28, []), (5, [9, 12, 15, 18, 21, 24, 28]), (1, []), (2, []), (6, []), (7, [9, 12, 15, 18, 21, 24, 28]), (10, [12, 15, 18, 21, 24, 28]), (13, [15, 18, 21, 24, 28]), (16, [18, 21, 24, 28]), (26, [18, 21, 28]), (29, [18, 21]), (22, []), (30, []), (31, [])])]⟩
theorem zw.L : LkT P zw.I Tryz.f10 fun C Q s h => zw.cps C N (s 0) h Q := fun {C} hC Q s h hR => eT hC (fun s h => zw.k23 C N Q (s 187) h) hR (fun s h hR => eT hC (fun s h => B.newO h (some [.nils]) fun k h => zw.k22 C N Q (.ptr k 0 0) (.fn (N 425) [] [(.ptr k 0 0)]) (s 187) h) hR (fun s h hR => eT hC (fun s h => zw.k22 C N Q (s 3) (.fn (N 425) [] [(s 3)]) (s 187) h) hR (fun s h hR => eT hC (fun s h => zw.k22 C N Q (s 3) (s 4) (s 187) h) hR (fun s h hR => eT hC (fun s h => zw.k21 C N Q (s 3) (s 4) (s 187) h) hR (fun s h hR => eT hC (fun s h => zw.k20 C N Q (s 3) (s 4) (s 187) h) hR (fun s h hR => eT hC (fun s h => B.al (s 187) (B.pv (V.zf 3 (s 187)) fun c => B.pv (V.zj c) fun l => zd (zw.l19 C N Q (s 3) (s 4) c l (s 187)) [(.int .i64 0)] h)) hR (fun s h hR => eS hC (fun s h => B.al (s 187) (B.pv (V.zf 4 (s 187)) fun a => B.pv (V.zj a) fun d => zd (zw.l7 C N Q (s 3) (s 4) a d (s 187)) [(.int .i64 0)] h)) (eT hC (fun s h => zd (zw.l19 C N Q (s 3) (s 4) (s 46) (s 47) (s 187)) [(s 48)] h) hR (fun s h hR => eK (eL hC [3, 4, 46, 47, 187] [48] (on5 (zw.l19 C N Q)) hR (fun Y3 s h hR => eT hC (fun s h => zw.k18 C N Q Y3 (s 3) (s 4) (s 46) (s 47) (s 48) (s 49) (s 187) h) hR (fun s h hR => eT hC (fun s h => zw.k17 C N Q Y3 (s 3) (s 4) (s 46) (s 47) (s 48) (s 187) h) hR (fun s h hR => eS hC (fun s h => B.pv (V.bin .add (s 48) (.int .i64 1)) fun e => Y3 [e] h) (eK (eT hC (fun s h => zw.k16 C N Q Y3 (s 3) (s 4) (s 46) (s 47) (s 48) (s 187) (s 192) h) hR (fun s h hR => eT hC (fun s h => zw.k15 C N Q Y3 (s 3) (s 4) (s 7) (s 46) (s 47) (s 48) (s 187) (s 192) h) hR (fun s h hR => eS hC (fun s h => zw.k12 C N Q Y3 (s 3) (s 4) (s 7) (s 46) (s 47) (s 48) (s 187) (s 192) h) (eT hC (fun s h => zd (zw.l14 C N Q Y3 (s 3) (s 4) (s 46) (s 47) (s 48) (s 62) (s 63) (s 187) (s 192)) [(s 7), (s 64)] h) hR (fun s h hR => eK (eL hC [3, 4, 46, 47, 48, 62, 63, 187, 192] [7, 64] (on9 (zw.l14 C N Q Y3)) hR (fun Y5 s h hR => e1 hR)))) (fun s h hR => eT hC (fun s h => zw.k11 C N Q Y3 (s 3) (s 4) (s 7) (s 46) (s 47) (s 48) (s 187) (s 192) h) hR (fun s h hR => eS hC (fun s h => zw.k8 C N Q Y3 (s 3) (s 4) (s 7) (s 46) (s 47) (s 48) (s 187) (s 192) h) (eT hC (fun s h => zd (zw.l10 C N Q Y3 (s 3) (s 4) (s 46) (s 47) (s 48) (s 87) (s 88) (s 187) (s 192)) [(s 7), (s 89)] h) hR (fun s h hR => eK (eL hC [3, 4, 46, 47, 48, 87, 88, 187, 192] [7, 89] (on9 (zw.l10 C N Q Y3)) hR (fun Y4 s h hR => e1 hR)))) (fun s h hR => e1 hR))))))) (fun s h hR => e1 hR))))))) (fun s h hR => eS hC (fun s h => B.al (s 187) (B.pv (V.zf 5 (s 187)) fun b => B.pv (V.zj b) fun f => zd (zw.l2 C N Q (s 3) (s 4) b f) [(.int .i64 0)] h)) (eT hC (fun s h => zd (zw.l7 C N Q (s 3) (s 4) (s 108) (s 109) (s 187)) [(s 110)] h) hR (fun s h hR => eK (eL hC [3, 4, 108, 109, 187] [110] (on5 (zw.l7 C N Q)) hR (fun Y2 s h hR => eT hC (fun s h => zw.k6 C N Q Y2 (s 3) (s 4) (s 108) (s 109) (s 110) (s 111) (s 187) h) hR (fun s h hR => eT hC (fun s h => zw.k5 C N Q Y2 (s 3) (s 4) (s 108) (s 109) (s 110) (s 187) h) hR (fun s h hR => eS hC (fun s h => B.pv (V.bin .add (s 110) (.int .i64 1)) fun g => Y2 [g] h) (eK (eT hC (fun s h => B.newO h (zc0 [(0, none, (.int .u8 0))] (repL 1 [.int .u8 0])) fun i h => zw.k4 C N Q Y2 (s 3) (s 4) (.sl i 0 0 1 1 1) (s 108) (s 109) (s 110) (s 187) (s 199) h) hR (fun s h hR => eT hC (fun s h => zw.k4 C N Q Y2 (s 3) (s 4) (s 14) (s 108) (s 109) (s 110) (s 187) (s 199) h) hR (fun s h hR => eT hC (fun s h => zw.k3 C N Q Y2 (s 3) (s 4) (s 14) (s 108) (s 109) (s 110) (s 187) (s 199) h) hR (fun s h hR => e1 hR))))) (fun s h hR => e1 hR))))))) (fun s h hR => eS hC (fun s h => B.ld h (s 3) fun j => Q j h) (eT hC (fun s h => zd (zw.l2 C N Q (s 3) (s 4) (s 146) (s 147)) [(s 148)] h) hR (fun s h hR => eK (eL hC [3, 4, 146, 147] [148] (on4 (zw.l2 C N Q)) hR (fun Y1 s h hR => e1 hR)))) (fun s h hR => e1 hR))))))))))
theorem zw.imp : zw.Imp (AC P) N := fun a h Q hR => eF mixed (fn := Tryz.f10) (fun hC => zw.L hC (dn Q) (zbb [a]) h hR)
def zb8.I : Bx := ⟨[], [], 27, [(6, pz [] 10)]⟩
theorem zb8.L : LkT P zb8.I Tryz.f14 fun C Q s h => zb8.cps C N (s 0) (s 1) h Q := fun {C} hC Q s h hR => eT hC (fun s h => zb8.k3 C N Q (s 0) (s 1) h) hR (fun s h hR => eT hC (fun s h => zd (zb8.l2 C N Q (s 0) (s 1)) [(.int .i64 0)] h) hR (fun s h hR => eS hC (fun s h => Q (.bool true) h) (eT hC (fun s h => zd (zb8.l2 C N Q (s 0) (s 1)) [(s 5)] h) hR (fun s h hR => eK (eL hC [0, 1] [5] (on2 (zb8.l2 C N Q)) hR (fun Y1 s h hR => e1 hR)))) (fun s h hR => e1 hR)))
theorem zb8.imp : zb8.Imp (AC P) N := fun a b h Q hR => eF mixed (fn := Tryz.f14) (fun hC => zb8.L hC (dn Q) (zbb [a, b]) h hR)
def zcj.I : Bx := ⟨[], [], 21, []⟩
theorem zcj.L : LkT P zcj.I Tryz.f15 fun C Q s h => zcj.cps C N (s 0) h Q := fun {C} hC Q s h hR => eT hC (fun s h => zcj.k3 C N Q (s 0) h) hR (fun s h hR => eT hC (fun s h => zd (zcj.l2 C N Q (s 0) (s 3)) [(.int .i64 0)] h) hR (fun s h hR => eS hC (fun s h => B.call C (N 62) [(s 3)] h fun a h => Q a h) (eT hC (fun s h => zd (zcj.l2 C N Q (s 0) (s 3)) [(s 4)] h) hR (fun s h hR => eK (eL hC [0, 3] [4] (on2 (zcj.l2 C N Q)) hR (fun Y1 s h hR => e1 hR)))) (fun s h hR => e1 hR)))
theorem zcj.imp : zcj.Imp (AC P) N := fun a h Q hR => eF mixed (fn := Tryz.f15) (fun hC => zcj.L hC (dn Q) (zbb [a]) h hR)
def zcp.I : Bx := ⟨[], [], 38, [(5, pz [] 17)]⟩
theorem zcp.L : LkT P zcp.I Tryz.f16 fun C Q s h => zcp.cps C N (s 0) h Q := fun {C} hC Q s h hR => eT hC (fun s h => zd (zcp.l3 C N Q (s 0)) [(.int .i64 0), (.int .i64 0)] h) hR (fun s h hR => eT hC (fun s h => zd (zcp.l3 C N Q (s 0)) [(s 3), (.int .i64 0)] h) hR (fun s h hR => eS hC (fun s h => zcp.k1 C N Q (s 0) (s 3) h) (eT hC (fun s h => zd (zcp.l3 C N Q (s 0)) [(s 3), (s 4)] h) hR (fun s h hR => eK (eL hC [0] [3, 4] (on1 (zcp.l3 C N Q)) hR (fun Y1 s h hR => e1 hR)))) (fun s h hR => e1 hR)))
theorem zcp.imp : zcp.Imp (AC P) N := fun a h Q hR => eF mixed (fn := Tryz.f16) (fun hC => zcp.L hC (dn Q) (zbb [a]) h hR)
def zbp.I : Bx := ⟨[5], [], 39, []⟩
theorem zbp.L : LkT P zbp.I Tryz.f17 fun C Q s h => zbp.cps C N (s 0) h Q := fun {C} hC Q s h hR => eT hC (fun s h => zbp.k5 C N Q (s 0) h) hR (fun s h hR => eT hC (fun s h => zd (zbp.l4 C N Q (s 0)) [(s 3), (.int .i64 0)] h) hR (fun s h hR => eS hC (fun s h => zd (zbp.l2 C N Q (s 0)) [(s 3), (.int .i64 0)] h) (eT hC (fun s h => zd (zbp.l4 C N Q (s 0)) [(s 3), (s 4)] h) hR (fun s h hR => eK (eL hC [0] [3, 4] (on1 (zbp.l4 C N Q)) hR (fun Y2 s h hR => e1 hR)))) (fun s h hR => eS hC (fun s h => B.pv (V.zj (s 0)) fun a => B.pv (V.zf1 2 (s 3) none (some a)) fun b => Q b h) (eT hC (fun s h => zd (zbp.l2 C N Q (s 0)) [(s 3), (s 6)] h) hR (fun s h hR => eK (eL hC [0] [3, 6] (on1 (zbp.l2 C N Q)) hR (fun Y1 s h hR => e1 hR)))) (fun s h hR => e1 hR))))
theorem zbp.imp : zbp.Imp (AC P) N := fun a h Q hR => eF mixed (fn := Tryz.f17) (fun hC => zbp.L hC (dn Q) (zbb [a]) h hR)
def zbc.I : Bx := ⟨[2, 4, 7], [28, 34, 40, 49, 53, 58, 69, 75, 81, 86, 94, 99, 107, 112, 120], 146, [(6, pz [] 20), (10, [(0, []), (1, []), (2, []), (4, []), (5, []), (6, []), (7, []), (3, []), (8, []), (9, []), (10, [])]), (20, pz [(5, [1])] 10), (22, pz [(4, [1]), (5, [1])] 10), (24, pz [(4, [1]), (5, [1])] 10)]⟩
theorem zbc.L : LkT P zbc.I Tryz.f18 fun C Q s h => zbc.cps C N (s 0) h Q := fun {C} hC Q s h hR => eT hC (fun s h => zbc.k10 C N Q (s 0) (s 148) h) hR (fun s h hR => eT hC (fun s h => B.pv (V.zj (s 0)) fun a => zd (zbc.l9 C N Q (s 0) (s 0) a) [.nils, (.int .i64 0), (s 148), (s 150)] h) hR (fun s h hR => eT hC (fun s h => B.pv (V.zj (s 0)) fun a => zd (zbc.l9 C N Q (s 0) (s 0) a) [(s 5), (.int .i64 0), (s 148), (s 150)] h) hR (fun s h hR => eS hC (fun s h => zbc.k1 C N Q (s 5) (s 148) (s 150) h) (eT hC (fun s h => zd (zbc.l9 C N Q (s 0) (s 12) (s 13)) [(s 5), (s 14), (s 148), (s 150)] h) hR (fun s h hR => eK (eL hC [0, 12, 13] [5, 14, 148, 150] (on3 (zbc.l9 C N Q)) hR (fun Y1 s h hR => eT hC (fun s h => B.cond (s 15) (zbc.k8 C N Q Y1 (s 0) (s 5) (s 12) (s 13) (s 14) (s 148) (s 150) h) (zbc.k1 C N Q (s 5) (s 148) (s 150) h)) hR (fun s h hR => eT hC (fun s h => zbc.k8 C N Q Y1 (s 0) (s 5) (s 12) (s 13) (s 14) (s 148) (s 150) h) hR (fun s h hR => eS hC (fun s h => B.pv (V.bin .add (s 14) (.int .i64 1)) fun b => Y1 [(s 5), b, (s 148), (s 150)] h) (eK (eT hC (fun s h => zbc.k7 C N Q Y1 (s 0) (s 5) (s 6) (s 12) (s 13) (s 14) (s 148) (s 150) (s 153) h) hR (fun s h hR => eT hC (fun s h => zbc.k6 C N Q Y1 (s 0) (s 5) (s 12) (s 13) (s 14) (s 148) (s 150) (s 153) h) hR (fun s h hR => eT hC (fun s h => zbc.k5 C N Q Y1 (s 0) (s 5) (s 12) (s 13) (s 14) (s 148) (s 150) (s 153) h) hR (fun s h hR => eT hC (fun s h => zbc.k4 C N Q Y1 (s 0) (s 5) (s 12) (s 13) (s 14) (s 148) (s 150) (s 153) h) hR (fun s h hR => eT hC (fun s h => zbc.k3 C N Q Y1 (s 0) (s 5) (s 8) (s 9) (s 12) (s 13) (s 14) (s 148) (s 150) (s 153) h) hR (fun s h hR => eT hC (fun s h => zbc.k2 C N Q Y1 (s 0) (s 5) (s 8) (s 9) (s 12) (s 13) (s 14) (s 148) (s 150) h) hR (fun s h hR => e1 hR)))))))) (fun s h hR => e1 hR))))))) (fun s h hR => e1 hR))))
theorem zbc.imp : zbc.Imp (AC P) N := fun a h Q hR => eF mixed (fn := Tryz.f18) (fun hC => zbc.L hC (dn Q) (zbb [a]) h hR)
def zby.I : Bx := ⟨[], [], 58, [(7, pz [(30, [25])] 35)]⟩
theorem zby.L : LkT P zby.I Tryz.f19 fun C Q s h => zby.cps C N (s 0) (s 1) h Q := fun {C} hC Q s h hR => eT hC (fun s h => zby.k4 C N Q (s 0) (s 1) h) hR (fun s h hR => eT hC (fun s h => zby.k3 C N Q (s 0) (s 1) h) hR (fun s h hR => eT hC (fun s h => zd (zby.l2 C N Q (s 1) (s 5)) [(.int .i64 0)] h) hR (fun s h hR => eS hC (fun s h => Q (.bool true) h) (eT hC (fun s h => zd (zby.l2 C N Q (s 1) (s 5)) [(s 6)] h) hR (fun s h hR => eK (eL hC [1, 5] [6] (on2 (zby.l2 C N Q)) hR (fun Y1 s h hR => e1 hR)))) (fun s h hR => e1 hR))))
theorem zby.imp : zby.Imp (AC P) N := fun a b h Q hR => eF mixed (fn := Tryz.f19) (fun hC => zby.L hC (dn Q) (zbb [a, b]) h hR)
def zbq.I : Bx := ⟨[], [], 32, []⟩
theorem zbq.L : LkT P zbq.I Tryz.f20 fun C Q s h => zbq.cps C N (s 0) h Q := fun {C} hC Q s h hR => eS hC (fun s h => zbq.k3 C N Q (s 0) h) (eT hC (fun s h => zd (zbq.l5 C N Q (s 0)) [(s 2)] h) hR (fun s h hR => eK (eL hC [0] [2] (on1 (zbq.l5 C N Q)) hR (fun Y2 s h hR => e1 hR)))) (fun s h hR => eT hC (fun s h => zd (zbq.l2 C N Q (s 3)) [(.int .i64 0)] h) hR (fun s h hR => eT hC (fun s h => zd (zbq.l2 C N Q (s 3)) [(s 4)] h) hR (fun s h hR => eK (eL hC [3] [4] (on1 (zbq.l2 C N Q)) hR (fun Y1 s h hR => e1 hR)))))
theorem zbq.imp : zbq.Imp (AC P) N := fun a h Q hR => eF mixed (fn := Tryz.f20) (fun hC => zbq.L hC (dn Q) (zbb [a]) h hR)
def zc1.I : Bx := ⟨[2, 3], [5, 7, 11, 13, 18, 20, 25, 27, 32, 34, 39, 41], 45, []⟩
theorem zc1.L : LkT P zc1.I Tryz.f22 fun C Q s h => zc1.cps C N (s 0) (s 1) h Q := fun {C} hC Q s h hR => e1 hR
theorem zc1.imp : zc1.Imp (AC P) N := fun a b h Q hR => eF mixed (fn := Tryz.f22) (fun hC => zc1.L hC (dn Q) (zbb [a, b]) h hR)
def zds.I : Bx := ⟨[1, 2], [3, 6, 7, 10], 12, []⟩
theorem zds.L : LkT P zds.I Tryz.f24 fun C Q s h => zds.cps C N (s 0) h Q := fun {C} hC Q s h hR => e1 hR
theorem zds.imp : zds.Imp (AC P) N := fun a h Q hR => eF mixed (fn := Tryz.f24) (fun hC => zds.L hC (dn Q) (zbb [a]) h hR)
def zb1.I : Bx := ⟨[5], [], 40, [(7, [(0, []), (1, []), (2, []), (3, []), (4, []), (6, []), (5, [0]), (7, [0]), (8, []), (9, []), (10, []), (11, [])])]⟩
theorem zb1.L : LkT P zb1.I Tryz.f25 fun C Q s h => zb1.cps C N (s 0) (s 1) (s 2) h Q := fun {C} hC Q s h hR => eT hC (fun s h => zb1.k5 C N Q (s 3) (s 4) (s 45) h) hR (fun s h hR => eT hC (fun s h => zb1.k4 C N Q (s 3) (s 4) (s 8) (s 9) h) hR (fun s h hR => eT hC (fun s h => B.newO h (some [.nils]) fun c h => zb1.k3 C N Q (s 3) (s 4) (s 8) (.ptr c 0 0) h) hR (fun s h hR => eT hC (fun s h => zb1.k3 C N Q (s 3) (s 4) (s 8) (s 10) h) hR (fun s h hR => eS hC (fun s h => B.ld h (s 10) fun a => Q (.tup [a, (.int .i64 0)]) h) (eT hC (fun s h => zw9 C (s 26) (W1 fun b h Z1 => zb1.r2 C N Q (s 3) (s 4) (s 10) b h Z1) h (RK [(0, fun h => B.ld h (s 10) fun a => Q (.tup [a, (.int .i64 0)]) h)])) hR (fun s h hR => eK (eR1 hC 26 27 [3, 4, 10] (fun kv b h Z1 => match kv with | [e, f, d] => zb1.r2 C N Q e f d b h Z1 | _ => False) hR (rk_cons (fun h hR => e0 hR) rk_nil) (fun Z1 s h hR => e1 hR)))) (fun s h hR => e1 hR)))))
theorem zb1.imp : zb1.Imp (AC P) N := fun a b c h Q hR => eF mixed (fn := Tryz.f25) (fun hC => zb1.L hC (dn Q) (zbb [a, b, c]) h hR)
def zbg.I : Bx := ⟨[6, 13, 14], [29, 36, 45, 61, 67, 73], 99, [(9, pz [] 14), (10, pz [(7, [3])] 30)]⟩
theorem zbg.L : LkT P zbg.I Tryz.f26 fun C Q s h => zbg.cps C N (s 0) (s 1) (s 2) h Q := fun {C} hC Q s h hR => eT hC (fun s h => B.call C (N 427) [(s 0), (s 1), (.int .i64 0)] h fun b h => zbg.k4 C N Q (s 0) (s 1) (s 2) b (s 105) h) hR (fun s h hR => eT hC (fun s h => zbg.k4 C N Q (s 0) (s 1) (s 2) (s 8) (s 105) h) hR (fun s h hR => eT hC (fun s h => B.pv (V.zj (s 2)) fun a => zd (zbg.l3 C N Q (s 0) (s 1) (s 8) (s 2) a (s 105)) [.nils, (.int .i64 0), (.bool true), (.int .i64 0)] h) hR (fun s h hR => eT hC (fun s h => B.pv (V.zj (s 2)) fun a => zd (zbg.l3 C N Q (s 0) (s 1) (s 8) (s 2) a (s 105)) [(s 9), (.int .i64 0), (.bool true), (.int .i64 0)] h) hR (fun s h hR => eT hC (fun s h => B.pv (V.zj (s 2)) fun a => zd (zbg.l3 C N Q (s 0) (s 1) (s 8) (s 2) a (s 105)) [(s 9), (s 10), (s 11), (.int .i64 0)] h) hR (fun s h hR => eS hC (fun s h => zbg.k1 C N Q (s 9) (s 11) (s 105) h) (eT hC (fun s h => zd (zbg.l3 C N Q (s 0) (s 1) (s 8) (s 23) (s 24) (s 105)) [(s 9), (s 10), (s 11), (s 25)] h) hR (fun s h hR => eK (eL hC [0, 1, 8, 23, 24, 105] [9, 10, 11, 25] (on6 (zbg.l3 C N Q)) hR (fun Y1 s h hR => e1 hR)))) (fun s h hR => e1 hR))))))
theorem zbg.imp : zbg.Imp (AC P) N := fun a b c h Q hR => eF mixed (fn := Tryz.f26) (fun hC => zbg.L hC (dn Q) (zbb [a, b, c]) h hR)
def zgq.I : Bx := ⟨[], [], 38, []⟩
theorem zgq.L : LkT P zgq.I Tryz.f27 fun C Q s h => zgq.cps C N (s 0) (s 1) (s 2) h Q := fun {C} hC Q s h hR => e1 hR
theorem zgq.imp : zgq.Imp (AC P) N := fun a b c h Q hR => eF mixed (fn := Tryz.f27) (fun hC => zgq.L hC (dn Q) (zbb [a, b, c]) h hR)
def zdt.I : Bx := ⟨[2, 3], [9, 11, 16, 18], 22, []⟩
theorem zdt.L : LkT P zdt.I Tryz.f28 fun C Q s h => zdt.cps C N (s 0) (s 1) h Q := fun {C} hC Q s h hR => e1 hR
theorem zdt.imp : zdt.Imp (AC P) N := fun a b h Q hR => eF mixed (fn := Tryz.f28) (fun hC => zdt.L hC (dn Q) (zbb [a, b]) h hR)
def zdq.I : Bx := ⟨[1], [2, 5], 8, []⟩
theorem zdq.L : LkT P zdq.I Tryz.f29 fun C Q s h => zdq.cps C N (s 0) h Q := fun {C} hC Q s h hR => e1 hR
theorem zdq.imp : zdq.Imp (AC P) N := fun a h Q hR => eF mixed (fn := Tryz.f29) (fun hC => zdq.L hC (dn Q) (zbb [a]) h hR)
def zbm.I : Bx := ⟨[5], [], 52, [(8, [(0, []), (1, []), (2, []), (3, []), (4, []), (7, []), (8, []), (9, []), (10, []), (11, []), (12, []), (13, []), (14, []), (5, []), (6, []), (15, []), (16, []), (17, []), (18, []), (19, [])])]⟩
theorem zbm.L : LkT P zbm.I Tryz.f30 fun C Q s h => zbm.cps C N (s 0) (s 1) (s 2) h Q := fun {C} hC Q s h hR => eT hC (fun s h => zbm.k4 C N Q (s 0) (s 1) (s 57) h) hR (fun s h hR => eT hC (fun s h => zbm.k3 C N Q (s 0) (s 1) (s 8) (s 9) h) hR (fun s h hR => eT hC (fun s h => zd (zbm.l2 C N Q (s 0) (s 1) (s 8)) [.nils, (.int .i64 0)] h) hR (fun s h hR => eT hC (fun s h => zd (zbm.l2 C N Q (s 0) (s 1) (s 8)) [(s 10), (.int .i64 0)] h) hR (fun s h hR => eS hC (fun s h => Q (.tup [(s 10), (.int .i64 0)]) h) (eT hC (fun s h => zd (zbm.l2 C N Q (s 0) (s 1) (s 8)) [(s 10), (s 11)] h) hR (fun s h hR => eK (eL hC [0, 1, 8] [10, 11] (on3 (zbm.l2 C N Q)) hR (fun Y1 s h hR => e1 hR)))) (fun s h hR => e1 hR)))))
theorem zbm.imp : zbm.Imp (AC P) N := fun a b c h Q hR => eF mixed (fn := Tryz.f30) (fun hC => zbm.L hC (dn Q) (zbb [a, b, c]) h hR)
def zh.I : Bx := ⟨[6, 12], [], 131, [(9, [(0, []), (1, []), (2, []), (3, []), (4, []), (5, []), (6, []), (7, []), (8, []), (9, []), (10, []), (11, []), (12, []), (13, []), (14, []), (15, []), (17, []), (18, []), (16, []), (19, []), (20, []), (21, [])]), (21, [(0, []), (1, []), (2, []), (3, []), (4, []), (6, []), (7, []), (8, []), (9, []), (10, []), (5, []), (11, []), (12, []), (13, []), (14, []), (15, []), (16, []), (17, []), (18, []), (20, []), (21, []), (22, []), (23, []), (24, []), (19, []), (25, []), (26, []), (27, [])])]⟩
theorem zh.L : LkT P zh.I Tryz.f31 fun C Q s h => zh.cps C N (s 0) (s 1) (s 2) h Q := fun {C} hC Q s h hR => eT hC (fun s h => B.call C (N 457) [(s 0), (s 1), (.int .i64 0)] h fun a h => zh.k10 C N Q (s 0) (s 1) (s 2) a (s 137) h) hR (fun s h hR => eT hC (fun s h => zh.k10 C N Q (s 0) (s 1) (s 2) (s 8) (s 137) h) hR (fun s h hR => eT hC (fun s h => zd (zh.l9 C N Q (s 0) (s 1) (s 2) (s 8) (s 137)) [.nils, .nils, (.int .i64 0)] h) hR (fun s h hR => eT hC (fun s h => zd (zh.l9 C N Q (s 0) (s 1) (s 2) (s 8) (s 137)) [(s 9), .nils, (.int .i64 0)] h) hR (fun s h hR => eT hC (fun s h => zd (zh.l9 C N Q (s 0) (s 1) (s 2) (s 8) (s 137)) [(s 9), (s 10), (.int .i64 0)] h) hR (fun s h hR => eS hC (fun s h => zh.k7 C N Q (s 0) (s 1) (s 9) (s 10) (s 137) h) (eT hC (fun s h => zd (zh.l9 C N Q (s 0) (s 1) (s 2) (s 8) (s 137)) [(s 9), (s 10), (s 11)] h) hR (fun s h hR => eK (eL hC [0, 1, 2, 8, 137] [9, 10, 11] (on5 (zh.l9 C N Q)) hR (fun Y2 s h hR => e1 hR)))) (fun s h hR => eT hC (fun s h => zh.k6 C N Q (s 0) (s 1) (s 9) (s 10) (s 13) (s 14) (s 137) (s 143) h) hR (fun s h hR => eT hC (fun s h => zh.k5 C N Q (s 0) (s 1) (s 9) (s 137) (s 143) h) hR (fun s h hR => eT hC (fun s h => zh.k4 C N Q (s 9) (s 15) (s 137) (s 143) h) hR (fun s h hR => eT hC (fun s h => zd (zh.l3 C N Q (s 9) (s 15) (s 143)) [(.int .i64 0), (s 137)] h) hR (fun s h hR => eS hC (fun s h => zh.k1 C N Q (s 137) (s 143) h) (eT hC (fun s h => zd (zh.l3 C N Q (s 9) (s 15) (s 143)) [(s 17), (s 137)] h) hR (fun s h hR => eK (eL hC [9, 15, 143] [17, 137] (on3 (zh.l3 C N Q)) hR (fun Y1 s h hR => e1 hR)))) (fun s h hR => e1 hR)))))))))))
theorem zh.imp : zh.Imp (AC P) N := fun a b c h Q hR => eF mixed (fn := Tryz.f31) (fun hC => zh.L hC (dn Q) (zbb [a, b, c]) h hR)
def zc3.I : Bx := ⟨[2, 3], [5, 7, 11, 13, 18, 20, 25, 27, 32, 34, 39, 41, 46, 48], 52, []⟩
theorem zc3.L : LkT P zc3.I Tryz.f32 fun C Q s h => zc3.cps C N (s 0) (s 1) h Q := fun {C} hC Q s h hR => e1 hR
theorem zc3.imp : zc3.Imp (AC P) N := fun a b h Q hR => eF mixed (fn := Tryz.f32) (fun hC => zc3.L hC (dn Q) (zbb [a, b]) h hR)
def zcn.I : Bx := ⟨[], [], 26, [(6, pz [] 9)]⟩
theorem zcn.L : LkT P zcn.I Tryz.f33 fun C Q s h => zcn.cps C N (s 0) (s 1) h Q := fun {C} hC Q s h hR => eT hC (fun s h => zcn.k3 C N Q (s 0) (s 1) h) hR (fun s h hR => eT hC (fun s h => zd (zqx.l4  Q (s 0) (s 1)) [(.int .i64 0)] h) hR (fun s h hR => eS hC (fun s h => Q (.bool true) h) (eT hC (fun s h => zd (zqx.l4  Q (s 0) (s 1)) [(s 5)] h) hR (fun s h hR => eK (eL hC [0, 1] [5] (on2 (zqx.l4  Q)) hR (fun Y1 s h hR => e1 hR)))) (fun s h hR => e1 hR)))
theorem zcn.imp : zcn.Imp (AC P) N := fun a b h Q hR => eF mixed (fn := Tryz.f33) (fun hC => zcn.L hC (dn Q) (zbb [a, b]) h hR)
def zex.I : Bx := ⟨[], [], 38, []⟩
theorem zex.L : LkT P zex.I Tryz.f34 fun C Q s h => zex.cps C N (s 0) (s 1) (s 2) h Q := fun {C} hC Q s h hR => e1 hR
theorem zex.imp : zex.Imp (AC P) N := fun a b c h Q hR => eF mixed (fn := Tryz.f34) (fun hC => zex.L hC (dn Q) (zbb [a, b, c]) h hR)
def zb4.I : Bx := ⟨[], [], 21, []⟩
theorem zb4.L : LkT P zb4.I Tryz.f35 fun C Q s h => zb4.cps C N (s 0) h Q := fun {C} hC Q s h hR => eT hC (fun s h => zb4.k3 C N Q (s 0) h) hR (fun s h hR => eT hC (fun s h => zd (zb4.l2 C N Q (s 0) (s 3)) [(.int .i64 0)] h) hR (fun s h hR => eS hC (fun s h => B.call C (N 62) [(s 3)] h fun a h => Q a h) (eT hC (fun s h => zd (zb4.l2 C N Q (s 0) (s 3)) [(s 4)] h) hR (fun s h hR => eK (eL hC [0, 3] [4] (on2 (zb4.l2 C N Q)) hR (fun Y1 s h hR => e1 hR)))) (fun s h hR => e1 hR)))
theorem zb4.imp : zb4.Imp (AC P) N := fun a h Q hR => eF mixed (fn := Tryz.f35) (fun hC => zb4.L hC (dn Q) (zbb [a]) h hR)
def zb5.I : Bx := ⟨[], [], 21, []⟩
theorem zb5.L : LkT P zb5.I Tryz.f36 fun C Q s h => zb5.cps C N (s 0) h Q := fun {C} hC Q s h hR => eT hC (fun s h => zb5.k3 C N Q (s 0) h) hR (fun s h hR => eT hC (fun s h => zd (zb5.l2 C N Q (s 0) (s 3)) [(.int .i64 0)] h) hR (fun s h hR => eS hC (fun s h => B.call C (N 62) [(s 3)] h fun a h => Q a h) (eT hC (fun s h => zd (zb5.l2 C N Q (s 0) (s 3)) [(s 4)] h) hR (fun s h hR => eK (eL hC [0, 3] [4] (on2 (zb5.l2 C N Q)) hR (fun Y1 s h hR => e1 hR)))) (fun s h hR => e1 hR)))
theorem zb5.imp : zb5.Imp (AC P) N := fun a h Q hR => eF mixed (fn := Tryz.f36) (fun hC => zb5.L hC (dn Q) (zbb [a]) h hR)
def zea.I : Bx := ⟨[0], [], 7, []⟩
theorem zea.L : LkT P zea.I Tryz.f39 fun C Q s h => zea.cps C N h Q := fun {C} hC Q s h hR => e1 hR
theorem zea.imp : zea.Imp (AC P) N := fun h Q hR => eF mixed (fn := Tryz.f39) (fun hC => zea.L hC (dn Q) (zbb []) h hR)
def zdb.I : Bx := ⟨[], [], 25, []⟩
theorem zdb.L : LkT P zdb.I Tryz.f44 fun C Q s h => zdb.cps C N (s 0) h Q := fun {C} hC Q s h hR => eT hC (fun s h => zdb.k3 C N Q (s 0) h) hR (fun s h hR => eT hC (fun s h => B.appW h 6 56 (s 3) (s 0) fun a h => zd (zoz.l4 C 6 56 (N 77) [.int .i64 0, .str [], .int .i64 0, .int .i64 0, .int .i64 0, .bool false] 1 Q (s 0)) [a, (.int .i64 0)] h) hR (fun s h hR => eT hC (fun s h => zd (zoz.l4 C 6 56 (N 77) [.int .i64 0, .str [], .int .i64 0, .int .i64 0, .int .i64 0, .bool false] 1 Q (s 0)) [(s 3), (.int .i64 0)] h) hR (fun s h hR => eS hC (fun s h => B.pv (V.zj (s 0)) fun b => B.pv (V.zf1 6 (s 3) none (some b)) fun c => Q c h) (eT hC (fun s h => zd (zoz.l4 C 6 56 (N 77) [.int .i64 0, .str [], .int .i64 0, .int .i64 0, .int .i64 0, .bool false] 1 Q (s 0)) [(s 3), (s 4)] h) hR (fun s h hR => eK (eL hC [0] [3, 4] (on1 (zoz.l4 C 6 56 (N 77) [.int .i64 0, .str [], .int .i64 0, .int .i64 0, .int .i64 0, .bool false] 1 Q)) hR (fun Y1 s h hR => e1 hR)))) (fun s h hR => e1 hR))))
theorem zdb.imp : zdb.Imp (AC P) N := fun a h Q hR => eF mixed (fn := Tryz.f44) (fun hC => zdb.L hC (dn Q) (zbb [a]) h hR)
def zbu.I : Bx := ⟨[1, 5, 7, 9], [10, 14, 19, 24, 29, 34, 38, 55, 62, 68, 85, 92, 98, 115, 122], 129, [(5, pz [] 22), (10, pz [] 22), (15, pz [] 22)]⟩
theorem zbu.L : LkT P zbu.I Tryz.f46 fun C Q s h => zbu.cps C N (s 0) h Q := fun {C} hC Q s h hR => eT hC (fun s h => zbu.k7 C N Q (s 130) h) hR (fun s h hR => eT hC (fun s h => B.al (s 130) (B.pv (V.zf 3 (s 130)) fun a => B.pv (V.zj a) fun e => zd (zbu.l6 C N Q a e (s 130)) [(s 3), (.int .i64 0)] h)) hR (fun s h hR => eS hC (fun s h => B.al (s 130) (B.pv (V.zf 4 (s 130)) fun b => B.pv (V.zj b) fun f => zd (zbu.l4 C N Q b f (s 130)) [(s 3), (.int .i64 0)] h)) (eT hC (fun s h => zd (zbu.l6 C N Q (s 39) (s 40) (s 130)) [(s 3), (s 41)] h) hR (fun s h hR => eK (eL hC [39, 40, 130] [3, 41] (on3 (zbu.l6 C N Q)) hR (fun Y3 s h hR => e1 hR)))) (fun s h hR => eS hC (fun s h => B.al (s 130) (B.pv (V.zf 5 (s 130)) fun c => B.pv (V.zj c) fun d => zd (zbu.l2 C N Q c d (s 130)) [(s 3), (.int .i64 0)] h)) (eT hC (fun s h => zd (zbu.l4 C N Q (s 69) (s 70) (s 130)) [(s 3), (s 71)] h) hR (fun s h hR => eK (eL hC [69, 70, 130] [3, 71] (on3 (zbu.l4 C N Q)) hR (fun Y2 s h hR => e1 hR)))) (fun s h hR => eS hC (fun s h => Q (s 3) h) (eT hC (fun s h => zd (zbu.l2 C N Q (s 99) (s 100) (s 130)) [(s 3), (s 101)] h) hR (fun s h hR => eK (eL hC [99, 100, 130] [3, 101] (on3 (zbu.l2 C N Q)) hR (fun Y1 s h hR => e1 hR)))) (fun s h hR => e1 hR)))))
theorem zbu.imp : zbu.Imp (AC P) N := fun a h Q hR => eF mixed (fn := Tryz.f46) (fun hC => zbu.L hC (dn Q) (zbb [a]) h hR)
def zen.I : Bx := ⟨[], [], 12, [(0, pz [(3, [0])] 8)]⟩
theorem zen.L : LkT P zen.I Tryz.f47 fun C Q s h => zen.cps C N (s 0) (s 1) (s 2) h Q := fun {C} hC Q s h hR => e1 hR
theorem zen.imp : zen.Imp (AC P) N := fun a b c h Q hR => eF mixed (fn := Tryz.f47) (fun hC => zen.L hC (dn Q) (zbb [a, b, c]) h hR)
def zfc.I : Bx := ⟨[], [], 5, []⟩
theorem zfc.L : LkT P zfc.I Tryz.f48 fun C Q s h => zfc.cps C N (s 0) h Q := fun {C} hC Q s h hR => e1 hR
theorem zfc.imp : zfc.Imp (AC P) N := fun a h Q hR => eF mixed (fn := Tryz.f48) (fun hC => zfc.L hC (dn Q) (zbb [a]) h hR)
def zcl.I : Bx := ⟨[], [], 27, []⟩
theorem zcl.L : LkT P zcl.I Tryz.f49 fun C Q s h => zcl.cps C N (s 0) (s 1) h Q := fun {C} hC Q s h hR => eT hC (fun s h => 0 < 1 ∧ B.mks h 1 (some [.int .u8 0]) (s 1) (s 1) fun b h => B.pv (V.zj b) fun a => zd (zcl.l2 C N Q (s 0) (s 1) b a) [(.int .i64 0)] h) hR (fun s h hR => eT hC (fun s h => B.pv (V.zj (s 5)) fun a => zd (zcl.l2 C N Q (s 0) (s 1) (s 5) a) [(.int .i64 0)] h) hR (fun s h hR => eS hC (fun s h => Q (s 5) h) (eT hC (fun s h => zd (zcl.l2 C N Q (s 0) (s 1) (s 5) (s 10)) [(s 11)] h) hR (fun s h hR => eK (eL hC [0, 1, 5, 10] [11] (on4 (zcl.l2 C N Q)) hR (fun Y1 s h hR => e1 hR)))) (fun s h hR => e1 hR)))
theorem zcl.imp : zcl.Imp (AC P) N := fun a b h Q hR => eF mixed (fn := Tryz.f49) (fun hC => zcl.L hC (dn Q) (zbb [a, b]) h hR)
def zfg.I : Bx := ⟨[], [], 16, []⟩
theorem zfg.L : LkT P zfg.I Tryz.f50 fun C Q s h => zfg.cps C N (s 0) h Q := fun {C} hC Q s h hR => e1 hR
theorem zfg.imp : zfg.Imp (AC P) N := fun a h Q hR => eF mixed (fn := Tryz.f50) (fun hC => zfg.L hC (dn Q) (zbb [a]) h hR)
def zcs.I : Bx := ⟨[], [], 58, [(7, pz [(30, [25])] 35)]⟩
theorem zcs.L : LkT P zcs.I Tryz.f52 fun C Q s h => zcs.cps C N (s 0) (s 1) h Q := fun {C} hC Q s h hR => eT hC (fun s h => zcs.k4 C N Q (s 0) (s 1) h) hR (fun s h hR => eT hC (fun s h => zcs.k3 C N Q (s 0) (s 1) h) hR (fun s h hR => eT hC (fun s h => zd (zrh.l4 C 6 (N 77) [.i .i64, .s, .i .i64, .i .i64, .i .i64, .b] 1 Q (s 1) (s 5)) [(.int .i64 0)] h) hR (fun s h hR => eS hC (fun s h => Q (.bool true) h) (eT hC (fun s h => zd (zrh.l4 C 6 (N 77) [.i .i64, .s, .i .i64, .i .i64, .i .i64, .b] 1 Q (s 1) (s 5)) [(s 6)] h) hR (fun s h hR => eK (eL hC [1, 5] [6] (on2 (zrh.l4 C 6 (N 77) [.i .i64, .s, .i .i64, .i .i64, .i .i64, .b] 1 Q)) hR (fun Y1 s h hR => e1 hR)))) (fun s h hR => e1 hR))))
theorem zcs.imp : zcs.Imp (AC P) N := fun a b h Q hR => eF mixed (fn := Tryz.f52) (fun hC => zcs.L hC (dn Q) (zbb [a, b]) h hR)
def zdr.I : Bx := ⟨[], [], 20, []⟩
theorem zdr.L : LkT P zdr.I Tryz.f55 fun C Q s h => zdr.cps C N (s 0) h Q := fun {C} hC Q s h hR => eT hC (fun s h => zd (zl4.l3 C 6 (N 77) (fun h p v K => B.stn h p 6 v K) 2 Q (s 2)) [(.int .i64 0)] h) hR (fun s h hR => eT hC (fun s h => zd (zl4.l3 C 6 (N 77) (fun h p v K => B.stn h p 6 v K) 2 Q (s 2)) [(s 3)] h) hR (fun s h hR => eK (eL hC [2] [3] (fun kv lv h Y1 => match kv with | [a] => zl4.l3 C 6 (N 77) (fun h p v K => B.stn h p 6 v K) 2 Q a lv h Y1 | _ => False) hR (fun Y1 s h hR => e1 hR))))
theorem zdr.imp : zdr.Imp (AC P) N := fun a h Q hR => eF mixed (fn := Tryz.f55) (fun hC => zdr.L hC (dn Q) (zbb [a]) h hR)
def zcd.I : Bx := ⟨[], [], 24, []⟩
theorem zcd.L : LkT P zcd.I Tryz.f58 fun C Q s h => zcd.cps C N (s 0) (s 1) h Q := fun {C} hC Q s h hR => eT hC (fun s h => B.pv (V.bin .sub (s 1) (.int .i64 1)) fun a => zd (zcd.l2 C N Q (s 0)) [.nils, a] h) hR (fun s h hR => eT hC (fun s h => B.pv (V.bin .sub (s 1) (.int .i64 1)) fun a => zd (zcd.l2 C N Q (s 0)) [(s 5), a] h) hR (fun s h hR => eS hC (fun s h => Q (s 5) h) (eT hC (fun s h => zd (zcd.l2 C N Q (s 0)) [(s 5), (s 6)] h) hR (fun s h hR => eK (eL hC [0] [5, 6] (on1 (zcd.l2 C N Q)) hR (fun Y1 s h hR => e1 hR)))) (fun s h hR => e1 hR)))
theorem zcd.imp : zcd.Imp (AC P) N := fun a b h Q hR => eF mixed (fn := Tryz.f58) (fun hC => zcd.L hC (dn Q) (zbb [a, b]) h hR)
def zdj.I : Bx := ⟨[2, 3], [5, 7, 11, 13], 17, []⟩
theorem zdj.L : LkT P zdj.I Tryz.f62 fun C Q s h => zdj.cps C N (s 0) (s 1) h Q := fun {C} hC Q s h hR => e1 hR
theorem zdj.imp : zdj.Imp (AC P) N := fun a b h Q hR => eF mixed (fn := Tryz.f62) (fun hC => zdj.L hC (dn Q) (zbb [a, b]) h hR)
def zbz.I : Bx := ⟨[], [], 27, []⟩
theorem zbz.L : LkT P zbz.I Tryz.f63 fun C Q s h => zbz.cps C N (s 0) (s 1) h Q := fun {C} hC Q s h hR => eT hC (fun s h => zd (zbz.l2 C N Q (s 0) (s 1)) [(.int .i64 0)] h) hR (fun s h hR => eT hC (fun s h => zd (zbz.l2 C N Q (s 0) (s 1)) [(s 4)] h) hR (fun s h hR => eK (eL hC [0, 1] [4] (on2 (zbz.l2 C N Q)) hR (fun Y1 s h hR => e1 hR))))
theorem zbz.imp : zbz.Imp (AC P) N := fun a b h Q hR => eF mixed (fn := Tryz.f63) (fun hC => zbz.L hC (dn Q) (zbb [a, b]) h hR)
def zd0.I : Bx := ⟨[], [], 162, []⟩
theorem zd0.L : LkT P zd0.I Tryz.f64 fun C Q s h => zd0.cps C N (s 0) h Q := fun {C} hC Q s h hR => e1 hR
theorem zd0.imp : zd0.Imp (AC P) N := fun a h Q hR => eF mixed (fn := Tryz.f64) (fun hC => zd0.L hC (dn Q) (zbb [a]) h hR)
def zec.I : Bx := ⟨[1, 2], [3, 6, 7, 10], 12, []⟩
theorem zec.L : LkT P zec.I Tryz.f65 fun C Q s h => zec.cps C N (s 0) h Q := fun {C} hC Q s h hR => e1 hR
theorem zec.imp : zec.Imp (AC P) N := fun a h Q hR => eF mixed (fn := Tryz.f65) (fun hC => zec.L hC (dn Q) (zbb [a]) h hR)
def zdh.I : Bx := ⟨[4], [], 10, []⟩
theorem zdh.L : LkT P zdh.I Tryz.f66 fun C Q s h => zdh.cps C N (s 0) (s 1) h Q := fun {C} hC Q s h hR => e1 hR
theorem zdh.imp : zdh.Imp (AC P) N := fun a b h Q hR => eF mixed (fn := Tryz.f66) (fun hC => zdh.L hC (dn Q) (zbb [a, b]) h hR)
def zdu.I : Bx := ⟨[], [], 8, []⟩
theorem zdu.L : LkT P zdu.I Tryz.f67 fun C Q s h => zdu.cps C N (s 0) (s 1) h Q := fun {C} hC Q s h hR => e1 hR
theorem zdu.imp : zdu.Imp (AC P) N := fun a b h Q hR => eF mixed (fn := Tryz.f67) (fun hC => zdu.L hC (dn Q) (zbb [a, b]) h hR)
def zp.I : Bx := ⟨[], [], 55, []⟩
theorem zp.L : LkT P zp.I Tryz.f68 fun C Q s h => zp.cps C N (s 0) (s 1) h Q := fun {C} hC Q s h hR => eT hC (fun s h => zp.k5 C N Q (s 0) (s 1) h) hR (fun s h hR => eT hC (fun s h => zp.k4 C N Q (s 0) (s 1) (.int .i64 0) h) hR (fun s h hR => eT hC (fun s h => zp.k4 C N Q (s 0) (s 1) (s 5) h) hR (fun s h hR => eS hC (fun s h => zp.k1 C N Q (s 0) (s 1) (s 5) h) (eT hC (fun s h => zd (zp.l3 C N Q (s 0) (s 1) (s 33) (s 34)) [(s 5), (s 35)] h) hR (fun s h hR => eK (eL hC [0, 1, 33, 34] [5, 35] (on4 (zp.l3 C N Q)) hR (fun Y1 s h hR => e1 hR)))) (fun s h hR => e1 hR))))
theorem zp.imp : zp.Imp (AC P) N := fun a b h Q hR => eF mixed (fn := Tryz.f68) (fun hC => zp.L hC (dn Q) (zbb [a, b]) h hR)
def zz.I : Bx := ⟨[4, 5, 7], [31, 32, 37, 51, 57], 59, [(11, pz [(3, [1])] 8)]⟩
theorem zz.L : LkT P zz.I Tryz.f69 fun C Q s h => zz.cps C N (s 0) (s 1) h Q := fun {C} hC Q s h hR => eT hC (fun s h => zz.k5 C N Q (s 0) (s 1) (s 63) h) hR (fun s h hR => eT hC (fun s h => B.call C (N 432) [(s 0), (.int .i64 1)] h fun a h => zd (zz.l4 C N Q (s 0) (s 63)) [a, (s 64)] h) hR (fun s h hR => eS hC (fun s h => B.call C (N 432) [(s 0), (.int .i64 1)] h fun b h => zd (zz.l2 C N Q (s 0) (s 63)) [b, (s 64)] h) (eT hC (fun s h => zd (zz.l4 C N Q (s 0) (s 63)) [(s 6), (s 64)] h) hR (fun s h hR => eK (eL hC [0, 63] [6, 64] (on2 (zz.l4 C N Q)) hR (fun Y2 s h hR => e1 hR)))) (fun s h hR => eS hC (fun s h => B.pv (V.zbv 0 4 (s 64)) fun c => B.pv (V.setN 0 4 c (s 63)) fun d => B.pv (oneOf (ze4 (V.zbv 0 4 d) (some []))) fun v => Q v h) (eT hC (fun s h => zd (zz.l2 C N Q (s 0) (s 63)) [(s 8), (s 64)] h) hR (fun s h hR => eK (eL hC [0, 63] [8, 64] (on2 (zz.l2 C N Q)) hR (fun Y1 s h hR => e1 hR)))) (fun s h hR => e1 hR))))
theorem zz.imp : zz.Imp (AC P) N := fun a b h Q hR => eF mixed (fn := Tryz.f69) (fun hC => zz.L hC (dn Q) (zbb [a, b]) h hR)
def zco.I : Bx := ⟨[4, 5], [14, 15, 16, 17, 20, 24], 26, []⟩
theorem zco.L : LkT P zco.I Tryz.f70 fun C Q s h => zco.cps C N (s 0) (s 1) h Q := fun {C} hC Q s h hR => e1 hR
theorem zco.imp : zco.Imp (AC P) N := fun a b h Q hR => eF mixed (fn := Tryz.f70) (fun hC => zco.L hC (dn Q) (zbb [a, b]) h hR)
def zch.I : Bx := ⟨[4, 5], [12, 17, 18, 22, 26, 29], 31, []⟩
theorem zch.L : LkT P zch.I Tryz.f71 fun C Q s h => zch.cps C N (s 0) (s 1) h Q := fun {C} hC Q s h hR => e1 hR
theorem zch.imp : zch.Imp (AC P) N := fun a b h Q hR => eF mixed (fn := Tryz.f71) (fun hC => zch.L hC (dn Q) (zbb [a, b]) h hR)
def zd8.I : Bx := ⟨[2, 3], [5, 7, 11, 13], 17, []⟩
theorem zd8.L : LkT P zd8.I Tryz.f72 fun C Q s h => zd8.cps C N (s 0) (s 1) h Q := fun {C} hC Q s h hR => e1 hR
theorem zd8.imp : zd8.Imp (AC P) N := fun a b h Q hR => eF mixed (fn := Tryz.f72) (fun hC => zd8.L hC (dn Q) (zbb [a, b]) h hR)
def zd4.I : Bx := ⟨[], [], 10, []⟩
theorem zd4.L : LkT P zd4.I Tryz.f73 fun C Q s h => zd4.cps C N (s 0) (s 1) h Q := fun {C} hC Q s h hR => e1 hR
theorem zd4.imp : zd4.Imp (AC P) N := fun a b h Q hR => eF mixed (fn := Tryz.f73) (fun hC => zd4.L hC (dn Q) (zbb [a, b]) h hR)
def zb.I : Bx := ⟨[8, 9], [], 32, []⟩
theorem zb.L : LkT P zb.I Tryz.f74 fun C Q s h => zb.cps C N (s 0) (s 1) (s 2) h Q := fun {C} hC Q s h hR => eT hC (fun s h => zb.k3 C N Q (s 0) (s 1) (s 2) h) hR (fun s h hR => eT hC (fun s h => B.pv (V.zj (s 0)) fun a => zd (zb.l2 C N Q (s 1) (s 2) (s 0) a) [(.int .i64 0)] h) hR (fun s h hR => eS hC (fun s h => Q (.bool true) h) (eT hC (fun s h => zd (zb.l2 C N Q (s 1) (s 2) (s 15) (s 16)) [(s 17)] h) hR (fun s h hR => eK (eL hC [1, 2, 15, 16] [17] (on4 (zb.l2 C N Q)) hR (fun Y1 s h hR => e1 hR)))) (fun s h hR => e1 hR)))
theorem zb.imp : zb.Imp (AC P) N := fun a b c h Q hR => eF mixed (fn := Tryz.f74) (fun hC => zb.L hC (dn Q) (zbb [a, b, c]) h hR)
def zed.I : Bx := ⟨[2, 3], [9, 11, 16, 18], 22, []⟩
theorem zed.L : LkT P zed.I Tryz.f75 fun C Q s h => zed.cps C N (s 0) (s 1) h Q := fun {C} hC Q s h hR => e1 hR
theorem zed.imp : zed.Imp (AC P) N := fun a b h Q hR => eF mixed (fn := Tryz.f75) (fun hC => zed.L hC (dn Q) (zbb [a, b]) h hR)
def zeb.I : Bx := ⟨[1], [2, 5], 8, []⟩
theorem zeb.L : LkT P zeb.I Tryz.f76 fun C Q s h => zeb.cps C N (s 0) h Q := fun {C} hC Q s h hR => e1 hR
theorem zeb.imp : zeb.Imp (AC P) N := fun a h Q hR => eF mixed (fn := Tryz.f76) (fun hC => zeb.L hC (dn Q) (zbb [a]) h hR)
def zbx.I : Bx := ⟨[], [], 27, [(6, pz [] 10)]⟩
theorem zbx.L : LkT P zbx.I Tryz.f78 fun C Q s h => zbx.cps C N (s 0) (s 1) h Q := fun {C} hC Q s h hR => eT hC (fun s h => zbx.k3 C N Q (s 0) (s 1) h) hR (fun s h hR => eT hC (fun s h => zd (zbx.l2 C N Q (s 0) (s 1)) [(.int .i64 0)] h) hR (fun s h hR => eS hC (fun s h => Q (.bool true) h) (eT hC (fun s h => zd (zbx.l2 C N Q (s 0) (s 1)) [(s 5)] h) hR (fun s h hR => eK (eL hC [0, 1] [5] (on2 (zbx.l2 C N Q)) hR (fun Y1 s h hR => e1 hR)))) (fun s h hR => e1 hR)))
theorem zbx.imp : zbx.Imp (AC P) N := fun a b h Q hR => eF mixed (fn := Tryz.f78) (fun hC => zbx.L hC (dn Q) (zbb [a, b]) h hR)
def zc4.I : Bx := ⟨[], [], 26, [(6, pz [] 9)]⟩
theorem zc4.L : LkT P zc4.I Tryz.f79 fun C Q s h => zc4.cps C N (s 0) (s 1) h Q := fun {C} hC Q s h hR => eT hC (fun s h => zc4.k3 C N Q (s 0) (s 1) h) hR (fun s h hR => eT hC (fun s h => zd (zkx.l4 6 [.i .i64, .s, .i .i64, .i .i64, .i .i64, .b] Q (s 0) (s 1)) [(.int .i64 0)] h) hR (fun s h hR => eS hC (fun s h => Q (.bool true) h) (eT hC (fun s h => zd (zkx.l4 6 [.i .i64, .s, .i .i64, .i .i64, .i .i64, .b] Q (s 0) (s 1)) [(s 5)] h) hR (fun s h hR => eK (eL hC [0, 1] [5] (on2 (zkx.l4 6 [.i .i64, .s, .i .i64, .i .i64, .i .i64, .b] Q)) hR (fun Y1 s h hR => e1 hR)))) (fun s h hR => e1 hR)))
theorem zc4.imp : zc4.Imp (AC P) N := fun a b h Q hR => eF mixed (fn := Tryz.f79) (fun hC => zc4.L hC (dn Q) (zbb [a, b]) h hR)
def zcv.I : Bx := ⟨[], [], 26, [(6, pz [] 9)]⟩
theorem zcv.L : LkT P zcv.I Tryz.f80 fun C Q s h => zcv.cps C N (s 0) (s 1) h Q := fun {C} hC Q s h hR => eT hC (fun s h => zcv.k3 C N Q (s 0) (s 1) h) hR (fun s h hR => eT hC (fun s h => zd (zkx.l4 8 [.i .i64, .s, .i .i64, .i .i64, .i .i64, .i .u8, .i .i64, .s] Q (s 0) (s 1)) [(.int .i64 0)] h) hR (fun s h hR => eS hC (fun s h => Q (.bool true) h) (eT hC (fun s h => zd (zkx.l4 8 [.i .i64, .s, .i .i64, .i .i64, .i .i64, .i .u8, .i .i64, .s] Q (s 0) (s 1)) [(s 5)] h) hR (fun s h hR => eK (eL hC [0, 1] [5] (on2 (zkx.l4 8 [.i .i64, .s, .i .i64, .i .i64, .i .i64, .i .u8, .i .i64, .s] Q)) hR (fun Y1 s h hR => e1 hR)))) (fun s h hR => e1 hR)))
theorem zcv.imp : zcv.Imp (AC P) N := fun a b h Q hR => eF mixed (fn := Tryz.f80) (fun hC => zcv.L hC (dn Q) (zbb [a, b]) h hR)
def zda.I : Bx := ⟨[], [], 25, []⟩
theorem zda.L : LkT P zda.I Tryz.f82 fun C Q s h => zda.cps C N (s 0) h Q := fun {C} hC Q s h hR => eT hC (fun s h => zda.k3 C N Q (s 0) h) hR (fun s h hR => eT hC (fun s h => B.appW h 3 24 (s 3) (s 0) fun a h => zd (zoz.l4 C 3 24 (N 78) [.int .i64 0, .int .i64 0, .int .i64 0] 1 Q (s 0)) [a, (.int .i64 0)] h) hR (fun s h hR => eT hC (fun s h => zd (zoz.l4 C 3 24 (N 78) [.int .i64 0, .int .i64 0, .int .i64 0] 1 Q (s 0)) [(s 3), (.int .i64 0)] h) hR (fun s h hR => eS hC (fun s h => B.pv (V.zj (s 0)) fun b => B.pv (V.zf1 3 (s 3) none (some b)) fun c => Q c h) (eT hC (fun s h => zd (zoz.l4 C 3 24 (N 78) [.int .i64 0, .int .i64 0, .int .i64 0] 1 Q (s 0)) [(s 3), (s 4)] h) hR (fun s h hR => eK (eL hC [0] [3, 4] (on1 (zoz.l4 C 3 24 (N 78) [.int .i64 0, .int .i64 0, .int .i64 0] 1 Q)) hR (fun Y1 s h hR => e1 hR)))) (fun s h hR => e1 hR))))
theorem zda.imp : zda.Imp (AC P) N := fun a h Q hR => eF mixed (fn := Tryz.f82) (fun hC => zda.L hC (dn Q) (zbb [a]) h hR)
def zb2.I : Bx := ⟨[1, 6, 9], [13, 16, 21, 25, 30, 35, 40, 44, 52, 56, 61, 62, 66, 67, 71, 74, 81, 85, 93, 97, 101], 106, []⟩
theorem zb2.L : LkT P zb2.I Tryz.f83 fun C Q s h => zb2.cps C N (s 0) h Q := fun {C} hC Q s h hR => eT hC (fun s h => zb2.k10 C N Q (s 107) h) hR (fun s h hR => eT hC (fun s h => B.al (s 107) (B.pv (V.zf 0 (s 107)) fun c => B.call C (N 50) [.nils, c, (.int .i64 2)] h fun d h => zb2.k9 C N Q d (s 107) h)) hR (fun s h hR => eT hC (fun s h => zb2.k9 C N Q (s 4) (s 107) h) hR (fun s h hR => eT hC (fun s h => B.al (s 107) (B.pv (V.zf 1 (s 107)) fun e => B.call C (N 50) [(s 4), e, (.int .i64 8)] h fun f h => zb2.k8 C N Q f (s 107) h)) hR (fun s h hR => eT hC (fun s h => zb2.k8 C N Q (s 4) (s 107) h) hR (fun s h hR => eT hC (fun s h => B.al (s 107) (B.pv (V.zf 3 (s 107)) fun g => B.call C (N 51) [g] h fun i h => B.appW h 1 1 (s 4) i fun j h => zb2.k7 C N Q j (s 107) h)) hR (fun s h hR => eT hC (fun s h => zb2.k7 C N Q (s 4) (s 107) h) hR (fun s h hR => eT hC (fun s h => zb2.k6 C N Q (s 4) (s 107) h) hR (fun s h hR => eT hC (fun s h => B.al (s 107) (B.pv (V.zf 5 (s 107)) fun a => B.pv (V.zj a) fun k => zd (zb2.l5 C N Q a k (s 107)) [(s 4), (.int .i64 0)] h)) hR (fun s h hR => eS hC (fun s h => zb2.k3 C N Q (s 4) (s 107) h) (eT hC (fun s h => zd (zb2.l5 C N Q (s 45) (s 46) (s 107)) [(s 4), (s 47)] h) hR (fun s h hR => eK (eL hC [45, 46, 107] [4, 47] (on3 (zb2.l5 C N Q)) hR (fun Y2 s h hR => e1 hR)))) (fun s h hR => eT hC (fun s h => B.al (s 107) (B.pv (V.zf 6 (s 107)) fun b => B.pv (V.zj b) fun l => zd (zb2.l2 C N Q b l) [(s 4), (.int .i64 0)] h)) hR (fun s h hR => eS hC (fun s h => Q (.tup [(s 4), (.int .i64 0)]) h) (eT hC (fun s h => zd (zb2.l2 C N Q (s 86) (s 87)) [(s 4), (s 88)] h) hR (fun s h hR => eK (eL hC [86, 87] [4, 88] (on2 (zb2.l2 C N Q)) hR (fun Y1 s h hR => e1 hR)))) (fun s h hR => e1 hR))))))))))))
theorem zb2.imp : zb2.Imp (AC P) N := fun a h Q hR => eF mixed (fn := Tryz.f83) (fun hC => zb2.L hC (dn Q) (zbb [a]) h hR)
def zbj.I : Bx := ⟨[], [], 9, []⟩
theorem zbj.L : LkT P zbj.I Tryz.f84 fun C Q s h => zbj.cps C N (s 0) (s 1) h Q := fun {C} hC Q s h hR => e1 hR
theorem zbj.imp : zbj.Imp (AC P) N := fun a b h Q hR => eF mixed (fn := Tryz.f84) (fun hC => zbj.L hC (dn Q) (zbb [a, b]) h hR)
def zeh.I : Bx := ⟨[], [], 8, []⟩
theorem zeh.L : LkT P zeh.I Tryz.f85 fun C Q s h => zeh.cps C N (s 0) h Q := fun {C} hC Q s h hR => e1 hR
theorem zeh.imp : zeh.Imp (AC P) N := fun a h Q hR => eF mixed (fn := Tryz.f85) (fun hC => zeh.L hC (dn Q) (zbb [a]) h hR)
def zck.I : Bx := ⟨[], [], 18, []⟩
theorem zck.L : LkT P zck.I Tryz.f86 fun C Q s h => zck.cps C N (s 0) (s 1) h Q := fun {C} hC Q s h hR => e1 hR
theorem zck.imp : zck.Imp (AC P) N := fun a b h Q hR => eF mixed (fn := Tryz.f86) (fun hC => zck.L hC (dn Q) (zbb [a, b]) h hR)
def zdx.I : Bx := ⟨[6], [13, 18, 22, 25, 29, 34, 39], 55, [(12, pz [(5, [4])] 8)]⟩
theorem zdx.L : LkT P zdx.I Tryz.f87 fun C Q s h => zdx.cps C N (s 0) h Q := fun {C} hC Q s h hR => eT hC (fun s h => B.pv (A.bld [(0, none, (s 0))] [.nils, .int .i64 0, .bool false]) fun a => B.newO h (A.zjr 3 a) fun b h => zdx.k3 C N Q (s 2) (.ptr b 0 0) h) hR (fun s h hR => eT hC (fun s h => zdx.k3 C N Q (s 2) (s 5) h) hR (fun s h hR => eT hC (fun s h => zdx.k2 C N Q (s 2) (s 5) (s 61) h) hR (fun s h hR => eT hC (fun s h => zdx.k1 C N Q (s 2) (s 5) (s 61) h) hR (fun s h hR => e1 hR))))
theorem zdx.imp : zdx.Imp (AC P) N := fun a h Q hR => eF mixed (fn := Tryz.f87) (fun hC => zdx.L hC (dn Q) (zbb [a]) h hR)
def zcr.I : Bx := ⟨[], [], 58, [(7, pz [(30, [25])] 35)]⟩
theorem zcr.L : LkT P zcr.I Tryz.f88 fun C Q s h => zcr.cps C N (s 0) (s 1) h Q := fun {C} hC Q s h hR => eT hC (fun s h => zcr.k4 C N Q (s 0) (s 1) h) hR (fun s h hR => eT hC (fun s h => zcr.k3 C N Q (s 0) (s 1) h) hR (fun s h hR => eT hC (fun s h => zd (zrh.l4 C 3 (N 78) [.i .i64, .i .i64, .i .i64] 1 Q (s 1) (s 5)) [(.int .i64 0)] h) hR (fun s h hR => eS hC (fun s h => Q (.bool true) h) (eT hC (fun s h => zd (zrh.l4 C 3 (N 78) [.i .i64, .i .i64, .i .i64] 1 Q (s 1) (s 5)) [(s 6)] h) hR (fun s h hR => eK (eL hC [1, 5] [6] (on2 (zrh.l4 C 3 (N 78) [.i .i64, .i .i64, .i .i64] 1 Q)) hR (fun Y1 s h hR => e1 hR)))) (fun s h hR => e1 hR))))
theorem zcr.imp : zcr.Imp (AC P) N := fun a b h Q hR => eF mixed (fn := Tryz.f88) (fun hC => zcr.L hC (dn Q) (zbb [a, b]) h hR)
def zdp.I : Bx := ⟨[], [], 20, []⟩
theorem zdp.L : LkT P zdp.I Tryz.f89 fun C Q s h => zdp.cps C N (s 0) h Q := fun {C} hC Q s h hR => eT hC (fun s h => zd (zl4.l3 C 3 (N 78) (fun h p v K => B.stn h p 3 v K) 2 Q (s 2)) [(.int .i64 0)] h) hR (fun s h hR => eT hC (fun s h => zd (zl4.l3 C 3 (N 78) (fun h p v K => B.stn h p 3 v K) 2 Q (s 2)) [(s 3)] h) hR (fun s h hR => eK (eL hC [2] [3] (fun kv lv h Y1 => match kv with | [a] => zl4.l3 C 3 (N 78) (fun h p v K => B.stn h p 3 v K) 2 Q a lv h Y1 | _ => False) hR (fun Y1 s h hR => e1 hR))))
theorem zdp.imp : zdp.Imp (AC P) N := fun a h Q hR => eF mixed (fn := Tryz.f89) (fun hC => zdp.L hC (dn Q) (zbb [a]) h hR)
def zbn.I : Bx := ⟨[1, 6], [12, 15, 20, 25, 31, 36, 41, 47, 53, 59, 64, 69, 70, 75, 76, 81, 85, 92, 98, 105, 114, 123], 132, []⟩
theorem zbn.L : LkT P zbn.I Tryz.f90 fun C Q s h => zbn.cps C N (s 0) h Q := fun {C} hC Q s h hR => eT hC (fun s h => zbn.k11 C N Q (s 133) h) hR (fun s h hR => eT hC (fun s h => B.al (s 133) (B.pv (V.zf 0 (s 133)) fun a => B.call C (N 58) [a, (.int .i64 2)] h fun b h => zbn.k10 C N Q b (s 133) h)) hR (fun s h hR => eT hC (fun s h => zbn.k10 C N Q (s 4) (s 133) h) hR (fun s h hR => eT hC (fun s h => zbn.k9 C N Q (s 4) (s 133) h) hR (fun s h hR => eT hC (fun s h => zbn.k8 C N Q (s 4) (s 133) h) hR (fun s h hR => eT hC (fun s h => B.al (s 133) (B.pv (V.zf 3 (s 133)) fun c => B.call C (N 59) [c] h fun d h => B.appW h 1 1 (s 4) d fun e h => zbn.k7 C N Q e (s 133) h)) hR (fun s h hR => eT hC (fun s h => zbn.k7 C N Q (s 4) (s 133) h) hR (fun s h hR => eT hC (fun s h => zbn.k6 C N Q (s 4) (s 133) h) hR (fun s h hR => eT hC (fun s h => zd (zbn.l5 C N Q (s 133)) [(s 4), (.int .i64 0)] h) hR (fun s h hR => eS hC (fun s h => zbn.k3 C N Q (s 4) (s 133) h) (eT hC (fun s h => zd (zbn.l5 C N Q (s 133)) [(s 4), (s 5)] h) hR (fun s h hR => eK (eL hC [133] [4, 5] (on1 (zbn.l5 C N Q)) hR (fun Y2 s h hR => e1 hR)))) (fun s h hR => eT hC (fun s h => zd (zbn.l2 C N Q (s 133)) [(s 4), (.int .i64 0)] h) hR (fun s h hR => eS hC (fun s h => Q (.tup [(s 4), (.int .i64 0)]) h) (eT hC (fun s h => zd (zbn.l2 C N Q (s 133)) [(s 4), (s 8)] h) hR (fun s h hR => eK (eL hC [133] [4, 8] (on1 (zbn.l2 C N Q)) hR (fun Y1 s h hR => e1 hR)))) (fun s h hR => e1 hR))))))))))))
theorem zbn.imp : zbn.Imp (AC P) N := fun a h Q hR => eF mixed (fn := Tryz.f90) (fun hC => zbn.L hC (dn Q) (zbb [a]) h hR)
def zbe.I : Bx := ⟨[6, 9], [16, 21, 25, 28, 32, 46, 52, 71, 74, 75, 80], 96, [(11, pz [(3, [1])] 8), (21, pz [(5, [4])] 8)]⟩
theorem zbe.L : LkT P zbe.I Tryz.f91 fun C Q s h => zbe.cps C N (s 0) h Q := fun {C} hC Q s h hR => eT hC (fun s h => B.pv (A.bld [(0, none, (s 0))] [.nils, .int .i64 0, .bool false]) fun b => B.newO h (A.zjr 3 b) fun c h => zbe.k9 C N Q (s 2) (.ptr c 0 0) h) hR (fun s h hR => eT hC (fun s h => zbe.k9 C N Q (s 2) (s 5) h) hR (fun s h hR => eT hC (fun s h => zbe.k8 C N Q (s 2) (s 5) (s 102) h) hR (fun s h hR => eS hC (fun s h => zbe.k1 C N Q (s 2) (s 5) (s 102) h) (eT hC (fun s h => B.cond (s 18) (B.call C (N 71) [(s 5), (.int .i64 8)] h fun d h => B.al (s 102) (B.pv (V.setF 1 d (s 102)) fun a => zbe.k7 C N Q (s 2) (s 5) a h)) (zbe.k1 C N Q (s 2) (s 5) (s 102) h)) hR (fun s h hR => eC 18 hR (fun hR => eT hC (fun s h => zbe.k7 C N Q (s 2) (s 5) (s 102) h) hR (fun s h hR => eT hC (fun s h => B.call C (N 73) [(s 5)] h fun e h => B.al (s 102) (B.pv (V.setF 3 e (s 102)) fun a => zbe.k6 C N Q (s 2) (s 5) a h)) hR (fun s h hR => eT hC (fun s h => zbe.k6 C N Q (s 2) (s 5) (s 102) h) hR (fun s h hR => eT hC (fun s h => B.call C (N 71) [(s 5), (.int .i64 2)] h fun f h => zd (zbe.l5 C N Q (s 2) (s 5)) [f, (s 102)] h) hR (fun s h hR => eS hC (fun s h => B.call C (N 71) [(s 5), (.int .i64 2)] h fun g h => zd (zbe.l3 C N Q (s 2) (s 5)) [g, (s 102)] h) (eT hC (fun s h => zd (zbe.l5 C N Q (s 2) (s 5)) [(s 7), (s 102)] h) hR (fun s h hR => eK (eL hC [2, 5] [7, 102] (on2 (zbe.l5 C N Q)) hR (fun Y2 s h hR => e1 hR)))) (fun s h hR => eT hC (fun s h => zd (zbe.l3 C N Q (s 2) (s 5)) [(s 8), (s 102)] h) hR (fun s h hR => eK (eL hC [2, 5] [8, 102] (on2 (zbe.l3 C N Q)) hR (fun Y1 s h hR => e1 hR))))))))) (fun hR => e1 hR))) (fun s h hR => e1 hR))))
theorem zbe.imp : zbe.Imp (AC P) N := fun a h Q hR => eF mixed (fn := Tryz.f91) (fun hC => zbe.L hC (dn Q) (zbb [a]) h hR)
def zc9.I : Bx := ⟨[], [], 26, [(6, pz [] 9)]⟩
theorem zc9.L : LkT P zc9.I Tryz.f92 fun C Q s h => zc9.cps C N (s 0) (s 1) h Q := fun {C} hC Q s h hR => eT hC (fun s h => zc9.k3 C N Q (s 0) (s 1) h) hR (fun s h hR => eT hC (fun s h => zd (zkx.l4 3 [.i .i64, .i .i64, .i .i64] Q (s 0) (s 1)) [(.int .i64 0)] h) hR (fun s h hR => eS hC (fun s h => Q (.bool true) h) (eT hC (fun s h => zd (zkx.l4 3 [.i .i64, .i .i64, .i .i64] Q (s 0) (s 1)) [(s 5)] h) hR (fun s h hR => eK (eL hC [0, 1] [5] (on2 (zkx.l4 3 [.i .i64, .i .i64, .i .i64] Q)) hR (fun Y1 s h hR => e1 hR)))) (fun s h hR => e1 hR)))
theorem zc9.imp : zc9.Imp (AC P) N := fun a b h Q hR => eF mixed (fn := Tryz.f92) (fun hC => zc9.L hC (dn Q) (zbb [a, b]) h hR)
def zb7.I : Bx := ⟨[], [], 18, []⟩
theorem zb7.L : LkT P zb7.I Tryz.f93 fun C Q s h => zb7.cps C N (s 0) h Q := fun {C} hC Q s h hR => eT hC (fun s h => zd (zb7.l2 C N Q (s 0)) [.nils, (.int .i64 0)] h) hR (fun s h hR => eT hC (fun s h => zd (zb7.l2 C N Q (s 0)) [(s 3), (.int .i64 0)] h) hR (fun s h hR => eS hC (fun s h => Q (s 3) h) (eT hC (fun s h => zd (zb7.l2 C N Q (s 0)) [(s 3), (s 4)] h) hR (fun s h hR => eK (eL hC [0] [3, 4] (on1 (zb7.l2 C N Q)) hR (fun Y1 s h hR => e1 hR)))) (fun s h hR => e1 hR)))
theorem zb7.imp : zb7.Imp (AC P) N := fun a h Q hR => eF mixed (fn := Tryz.f93) (fun hC => zb7.L hC (dn Q) (zbb [a]) h hR)
def zbr.I : Bx := ⟨[], [], 27, []⟩
theorem zbr.L : LkT P zbr.I Tryz.f94 fun C Q s h => zbr.cps C N (s 0) (s 1) h Q := fun {C} hC Q s h hR => eT hC (fun s h => zd (zbr.l2 C N Q (s 0) (s 1)) [(.int .i64 0)] h) hR (fun s h hR => eT hC (fun s h => zd (zbr.l2 C N Q (s 0) (s 1)) [(s 4)] h) hR (fun s h hR => eK (eL hC [0, 1] [4] (on2 (zbr.l2 C N Q)) hR (fun Y1 s h hR => e1 hR))))
theorem zbr.imp : zbr.Imp (AC P) N := fun a b h Q hR => eF mixed (fn := Tryz.f94) (fun hC => zbr.L hC (dn Q) (zbb [a, b]) h hR)
def zcx.I : Bx := ⟨[], [], 14, []⟩
theorem zcx.L : LkT P zcx.I Tryz.f95 fun C Q s h => zcx.cps C N (s 0) (s 1) h Q := fun {C} hC Q s h hR => e1 hR
theorem zcx.imp : zcx.Imp (AC P) N := fun a b h Q hR => eF mixed (fn := Tryz.f95) (fun hC => zcx.L hC (dn Q) (zbb [a, b]) h hR)
def zdi.I : Bx := ⟨[4], [], 9, []⟩
theorem zdi.L : LkT P zdi.I Tryz.f100 fun C Q s h => zdi.cps C N (s 0) (s 1) h Q := fun {C} hC Q s h hR => e1 hR
theorem zdi.imp : zdi.Imp (AC P) N := fun a b h Q hR => eF mixed (fn := Tryz.f100) (fun hC => zdi.L hC (dn Q) (zbb [a, b]) h hR)
def zdf.I : Bx := ⟨[1, 5], [6, 9, 14, 18, 22, 26, 33, 37, 42, 47], 54, []⟩
theorem zdf.L : LkT P zdf.I Tryz.f102 fun C Q s h => zdf.cps C N (s 0) h Q := fun {C} hC Q s h hR => eT hC (fun s h => zdf.k5 C N Q (s 55) h) hR (fun s h hR => eT hC (fun s h => zdf.k4 C N Q (s 55) h) hR (fun s h hR => eT hC (fun s h => B.al (s 55) (B.pv (V.zf 2 (s 55)) fun a => B.pv (V.zj a) fun b => zd (zdf.l3 C N Q a b (s 55)) [.nils, (.int .i64 0)] h)) hR (fun s h hR => eT hC (fun s h => B.al (s 55) (B.pv (V.zf 2 (s 55)) fun a => B.pv (V.zj a) fun b => zd (zdf.l3 C N Q a b (s 55)) [(s 3), (.int .i64 0)] h)) hR (fun s h hR => eS hC (fun s h => zdf.k1 C N Q (s 3) (s 55) h) (eT hC (fun s h => zd (zdf.l3 C N Q (s 27) (s 28) (s 55)) [(s 3), (s 29)] h) hR (fun s h hR => eK (eL hC [27, 28, 55] [3, 29] (on3 (zdf.l3 C N Q)) hR (fun Y1 s h hR => e1 hR)))) (fun s h hR => e1 hR)))))
theorem zdf.imp : zdf.Imp (AC P) N := fun a h Q hR => eF mixed (fn := Tryz.f102) (fun hC => zdf.L hC (dn Q) (zbb [a]) h hR)
def ze6.I : Bx := ⟨[1], [3, 7, 12, 17, 18, 20, 21, 26, 31], 35, []⟩
theorem ze6.L : LkT P ze6.I Tryz.f103 fun C Q s h => ze6.cps C N (s 0) h Q := fun {C} hC Q s h hR => e1 hR
theorem ze6.imp : ze6.Imp (AC P) N := fun a h Q hR => eF mixed (fn := Tryz.f103) (fun hC => ze6.L hC (dn Q) (zbb [a]) h hR)
def zer.I : Bx := ⟨[1], [3, 7, 13, 18, 23, 28, 33, 38, 42, 46, 50, 53, 57, 61, 65, 70, 75], 79, []⟩
theorem zer.L : LkT P zer.I Tryz.f104 fun C Q s h => zer.cps C N (s 0) h Q := fun {C} hC Q s h hR => e1 hR
theorem zer.imp : zer.Imp (AC P) N := fun a h Q hR => eF mixed (fn := Tryz.f104) (fun hC => zer.L hC (dn Q) (zbb [a]) h hR)
def zg.I : Bx := ⟨[], [], 36, []⟩
theorem zg.L : LkT P zg.I Tryz.f105 fun C Q s h => zg.cps C N (s 0) h Q := fun {C} hC Q s h hR => eT hC (fun s h => B.pv (V.zj (s 0)) fun a => zd (zg.l4 C N Q (s 0) (s 0) a) [(.int .i64 0), (.int .i64 0)] h) hR (fun s h hR => eT hC (fun s h => B.pv (V.zj (s 0)) fun a => zd (zg.l4 C N Q (s 0) (s 0) a) [(s 3), (.int .i64 0)] h) hR (fun s h hR => eS hC (fun s h => B.call C (N 444) [.nils, (s 3)] h fun c h => B.pv (V.zj (s 0)) fun b => zd (zg.l2 C N Q (s 0) b) [c, (.int .i64 0)] h) (eT hC (fun s h => zd (zg.l4 C N Q (s 0) (s 9) (s 10)) [(s 3), (s 11)] h) hR (fun s h hR => eK (eL hC [0, 9, 10] [3, 11] (on3 (zg.l4 C N Q)) hR (fun Y2 s h hR => e1 hR)))) (fun s h hR => eT hC (fun s h => B.pv (V.zj (s 0)) fun b => zd (zg.l2 C N Q (s 0) b) [(s 6), (.int .i64 0)] h) hR (fun s h hR => eS hC (fun s h => Q (s 6) h) (eT hC (fun s h => zd (zg.l2 C N Q (s 25) (s 26)) [(s 6), (s 27)] h) hR (fun s h hR => eK (eL hC [25, 26] [6, 27] (on2 (zg.l2 C N Q)) hR (fun Y1 s h hR => e1 hR)))) (fun s h hR => e1 hR)))))
theorem zg.imp : zg.Imp (AC P) N := fun a h Q hR => eF mixed (fn := Tryz.f105) (fun hC => zg.L hC (dn Q) (zbb [a]) h hR)
def zb9.I : Bx := ⟨[], [], 40, []⟩
theorem zb9.L : LkT P zb9.I Tryz.f106 fun C Q s h => zb9.cps C N (s 0) h Q := fun {C} hC Q s h hR => eT hC (fun s h => B.zh7 h (s 0) fun a h => zd (zb9.l3 C N Q (s 0) a) [] h) hR (fun s h hR => eS hC (fun s h => zb9.k1 C N Q (s 0) h) (eT hC (fun s h => zd (zb9.l3 C N Q (s 0) (s 6)) [] h) hR (fun s h hR => eK (eL hC [0, 6] [] (on2 (zb9.l3 C N Q)) hR (fun Y1 s h hR => e1 hR)))) (fun s h hR => e1 hR))
theorem zb9.imp : zb9.Imp (AC P) N := fun a h Q hR => eF mixed (fn := Tryz.f106) (fun hC => zb9.L hC (dn Q) (zbb [a]) h hR)
def zgn.I : Bx := ⟨[], [], 9, []⟩
theorem zgn.L : LkT P zgn.I Tryz.f107 fun C Q s h => zgn.cps C N (s 0) (s 1) h Q := fun {C} hC Q s h hR => e1 hR
theorem zgn.imp : zgn.Imp (AC P) N := fun a b h Q hR => eF mixed (fn := Tryz.f107) (fun hC => zgn.L hC (dn Q) (zbb [a, b]) h hR)
def zdo.I : Bx := ⟨[2, 3], [5, 7, 11, 13, 18, 20, 25, 27], 31, []⟩
theorem zdo.L : LkT P zdo.I Tryz.f109 fun C Q s h => zdo.cps C N (s 0) (s 1) h Q := fun {C} hC Q s h hR => e1 hR
theorem zdo.imp : zdo.Imp (AC P) N := fun a b h Q hR => eF mixed (fn := Tryz.f109) (fun hC => zdo.L hC (dn Q) (zbb [a, b]) h hR)
def zd9.I : Bx := ⟨[1], [3, 7, 12, 13, 18, 19, 21, 22, 27, 28, 33, 38], 42, []⟩
theorem zd9.L : LkT P zd9.I Tryz.f112 fun C Q s h => zd9.cps C N (s 0) h Q := fun {C} hC Q s h hR => e1 hR
theorem zd9.imp : zd9.Imp (AC P) N := fun a h Q hR => eF mixed (fn := Tryz.f112) (fun hC => zd9.L hC (dn Q) (zbb [a]) h hR)
def zfd.I : Bx := ⟨[], [], 16, []⟩
theorem zfd.L : LkT P zfd.I Tryz.f114 fun C Q s h => zfd.cps C N (s 0) h Q := fun {C} hC Q s h hR => e1 hR
theorem zfd.imp : zfd.Imp (AC P) N := fun a h Q hR => eF mixed (fn := Tryz.f114) (fun hC => zfd.L hC (dn Q) (zbb [a]) h hR)
def zdw.I : Bx := ⟨[3], [5, 9], 12, []⟩
theorem zdw.L : LkT P zdw.I Tryz.f115 fun C Q s h => zdw.cps C N (s 0) (s 1) h Q := fun {C} hC Q s h hR => e1 hR
theorem zdw.imp : zdw.Imp (AC P) N := fun a b h Q hR => eF mixed (fn := Tryz.f115) (fun hC => zdw.L hC (dn Q) (zbb [a, b]) h hR)
def zfm.I : Bx := ⟨[], [], 200, [(7, pz [(7, [3])] 11), (24, pz [(9, [3, 6]), (31, [25, 28])] 37), (41, pz [(9, [3, 6]), (23, [17, 20])] 28)]⟩
def zga.I : Bx := ⟨[], [], 193, [(7, pz [(7, [3])] 10), (24, pz [(9, [3, 6]), (30, [24, 27])] 35), (41, pz [(9, [3, 6]), (22, [16, 19])] 26)]⟩
def zfu.I : Bx := ⟨[], [], 193, [(7, pz [(7, [3])] 10), (24, pz [(9, [3, 6]), (30, [24, 27])] 35), (41, pz [(9, [3, 6]), (22, [16, 19])] 26)]⟩
def zfp.I : Bx := ⟨[], [], 193, [(7, pz [(7, [3])] 10), (24, pz [(9, [3, 6]), (30, [24, 27])] 35), (41, pz [(9, [3, 6]), (22, [16, 19])] 26)]⟩
def zeu.I : Bx := ⟨[], [], 193, [(7, pz [(7, [3])] 10), (24, pz [(9, [3, 6]), (30, [24, 27])] 35), (41, pz [(9, [3, 6]), (22, [16, 19])] 26)]⟩
theorem zeu.L : LkT P zeu.I Tryz.f120 fun C Q s h => zeu.cps C N (s 0) h Q := fun {C} hC Q s h hR => eT hC (fun s h => zd (zu.l103 (opsS 1 (.int .u8 0) (N 64)) C Q (s 0)) [(.int .i64 0)] h) hR (fun s h hR => eS hC (fun s h => B.pv (V.zj (s 0)) fun b => 0 < 1 ∧ B.mks h 24 (some [.nils]) b b fun f h => zd (zu.l82 (opsS 1 (.int .u8 0) (N 64)) C Q (s 0) f) [(.int .i64 0)] h) (eT hC (fun s h => zd (zu.l103 (opsS 1 (.int .u8 0) (N 64)) C Q (s 0)) [(s 3)] h) hR (fun s h hR => eK (eL hC [0] [3] (on1 (zu.l103 (opsS 1 (.int .u8 0) (N 64)) C Q)) hR (fun Y9 s h hR => eT hC (fun s h => zd (zu.l93 (opsS 1 (.int .u8 0) (N 64)) C Q Y9 (s 0) (s 3)) [(.int .i64 0)] h) hR (fun s h hR => eS hC (fun s h => B.pv (V.bin .add (s 3) (.int .i64 1)) fun g => Y9 [g] h) (eK (eT hC (fun s h => zd (zu.l93 (opsS 1 (.int .u8 0) (N 64)) C Q Y9 (s 0) (s 3)) [(s 4)] h) hR (fun s h hR => eK (eL hC [0, 3] [4] (on2 (zu.l93 (opsS 1 (.int .u8 0) (N 64)) C Q Y9)) hR (fun Y10 s h hR => e1 hR))))) (fun s h hR => e1 hR)))))) (fun s h hR => eT hC (fun s h => zd (zu.l82 (opsS 1 (.int .u8 0) (N 64)) C Q (s 0) (s 5)) [(.int .i64 0)] h) hR (fun s h hR => eS hC (fun s h => zd (zu.l59 (opsS 1 (.int .u8 0) (N 64)) C Q (s 0) (s 5)) [(.int .i64 0)] h) (eT hC (fun s h => zd (zu.l82 (opsS 1 (.int .u8 0) (N 64)) C Q (s 0) (s 5)) [(s 6)] h) hR (fun s h hR => eK (eL hC [0, 5] [6] (on2 (zu.l82 (opsS 1 (.int .u8 0) (N 64)) C Q)) hR (fun Y7 s h hR => eT hC (fun s h => B.pv (V.idxS 1 (s 0) (s 6)) fun i => B.ld h i fun j => zd (zu.l69 (opsS 1 (.int .u8 0) (N 64)) C Q Y7 (s 0) (s 5) (s 6)) [j, (.int .i64 0)] h) hR (fun s h hR => eS hC (fun s h => B.pv (V.bin .add (s 6) (.int .i64 1)) fun a => Y7 [a] h) (eK (eT hC (fun s h => zd (zu.l69 (opsS 1 (.int .u8 0) (N 64)) C Q Y7 (s 0) (s 5) (s 6)) [(s 7), (.int .i64 0)] h) hR (fun s h hR => eS hC (fun s h => B.pv (V.idxS 1 (s 5) (s 6)) fun k => B.st h k (s 7) fun h => B.pv (V.bin .add (s 6) (.int .i64 1)) fun a => Y7 [a] h) (eT hC (fun s h => zd (zu.l69 (opsS 1 (.int .u8 0) (N 64)) C Q Y7 (s 0) (s 5) (s 6)) [(s 7), (s 8)] h) hR (fun s h hR => eK (eL hC [0, 5, 6] [7, 8] (on3 (zu.l69 (opsS 1 (.int .u8 0) (N 64)) C Q Y7)) hR (fun Y8 s h hR => e1 hR)))) (fun s h hR => e1 hR)))) (fun s h hR => e1 hR)))))) (fun s h hR => eS hC (fun s h => zd (zu.l40 (opsS 1 (.int .u8 0) (N 64)) C Q (s 0) (s 5)) [(.int .i64 0)] h) (eT hC (fun s h => zd (zu.l59 (opsS 1 (.int .u8 0) (N 64)) C Q (s 0) (s 5)) [(s 9)] h) hR (fun s h hR => eK (eL hC [0, 5] [9] (on2 (zu.l59 (opsS 1 (.int .u8 0) (N 64)) C Q)) hR (fun Y5 s h hR => eT hC (fun s h => zd (zu.l49 (opsS 1 (.int .u8 0) (N 64)) C Q Y5 (s 0) (s 5) (s 9)) [(.int .i64 0)] h) hR (fun s h hR => eS hC (fun s h => B.pv (V.bin .add (s 9) (.int .i64 1)) fun l => Y5 [l] h) (eK (eT hC (fun s h => zd (zu.l49 (opsS 1 (.int .u8 0) (N 64)) C Q Y5 (s 0) (s 5) (s 9)) [(s 10)] h) hR (fun s h hR => eK (eL hC [0, 5, 9] [10] (on3 (zu.l49 (opsS 1 (.int .u8 0) (N 64)) C Q Y5)) hR (fun Y6 s h hR => e1 hR))))) (fun s h hR => e1 hR)))))) (fun s h hR => eS hC (fun s h => zd (zu.l15 (opsS 1 (.int .u8 0) (N 64)) C Q (s 0) (s 5)) [(.int .i64 0)] h) (eT hC (fun s h => zd (zu.l40 (opsS 1 (.int .u8 0) (N 64)) C Q (s 0) (s 5)) [(s 11)] h) hR (fun s h hR => eK (eL hC [0, 5] [11] (on2 (zu.l40 (opsS 1 (.int .u8 0) (N 64)) C Q)) hR (fun Y3 s h hR => eT hC (fun s h => 0 < 1 ∧ B.mks h 1 (some [.int .u8 0]) (.int .i64 64) (.int .i64 64) fun c h => zd (zu.l26 (opsS 1 (.int .u8 0) (N 64)) C Q Y3 (s 0) (s 5) (s 11) c) [(.int .i64 0)] h) hR (fun s h hR => eS hC (fun s h => B.pv (V.bin .add (s 11) (.int .i64 1)) fun d => Y3 [d] h) (eK (eT hC (fun s h => zd (zu.l26 (opsS 1 (.int .u8 0) (N 64)) C Q Y3 (s 0) (s 5) (s 11) (s 12)) [(.int .i64 0)] h) hR (fun s h hR => eS hC (fun s h => zu.k22 (opsS 1 (.int .u8 0) (N 64)) C Q Y3 (s 0) (s 5) (s 11) (s 12) h) (eT hC (fun s h => zd (zu.l26 (opsS 1 (.int .u8 0) (N 64)) C Q Y3 (s 0) (s 5) (s 11) (s 12)) [(s 13)] h) hR (fun s h hR => eK (eL hC [0, 5, 11, 12] [13] (on4 (zu.l26 (opsS 1 (.int .u8 0) (N 64)) C Q Y3)) hR (fun Y4 s h hR => e1 hR)))) (fun s h hR => e1 hR)))) (fun s h hR => e1 hR)))))) (fun s h hR => eS hC (fun s h => Q (.bool true) h) (eT hC (fun s h => zd (zu.l15 (opsS 1 (.int .u8 0) (N 64)) C Q (s 0) (s 5)) [(s 14)] h) hR (fun s h hR => eK (eL hC [0, 5] [14] (on2 (zu.l15 (opsS 1 (.int .u8 0) (N 64)) C Q)) hR (fun Y1 s h hR => eT hC (fun s h => zd (zu.l5 (opsS 1 (.int .u8 0) (N 64)) C Q Y1 (s 0) (s 5) (s 14)) [(.int .i64 0)] h) hR (fun s h hR => eS hC (fun s h => B.pv (V.bin .add (s 14) (.int .i64 1)) fun e => Y1 [e] h) (eK (eT hC (fun s h => zd (zu.l5 (opsS 1 (.int .u8 0) (N 64)) C Q Y1 (s 0) (s 5) (s 14)) [(s 15)] h) hR (fun s h hR => eK (eL hC [0, 5, 14] [15] (on3 (zu.l5 (opsS 1 (.int .u8 0) (N 64)) C Q Y1)) hR (fun Y2 s h hR => e1 hR))))) (fun s h hR => e1 hR)))))) (fun s h hR => e1 hR)))))))
theorem zeu.imp : zeu.Imp (AC P) N := fun a h Q hR => eF mixed (fn := Tryz.f120) (fun hC => zeu.L hC (dn Q) (zbb [a]) h hR)
def zez.I : Bx := ⟨[], [], 193, [(7, pz [(7, [3])] 10), (24, pz [(9, [3, 6]), (30, [24, 27])] 35), (41, pz [(9, [3, 6]), (22, [16, 19])] 26)]⟩
def z9.I : Bx := ⟨[], [], 193, [(7, pz [(7, [3])] 10), (24, pz [(9, [3, 6]), (30, [24, 27])] 35), (41, pz [(9, [3, 6]), (22, [16, 19])] 26)]⟩
abbrev z9.E : zfz := opsF 6 56 [.int .i64 0, .str [], .int .i64 0, .int .i64 0, .int .i64 0, .bool false] (N 77) [.i .i64, .s, .i .i64, .i .i64, .i .i64, .b]
theorem z9.L : LkT P z9.I Tryz.f122 fun C Q s h => z9.cps C N (s 0) h Q := fun {C} hC Q s h hR => eT hC (fun s h => zd (zu.l103 z9.E C Q (s 0)) [(.int .i64 0)] h) hR (fun s h hR => eS hC (fun s h => B.pv (V.zj (s 0)) fun b => 0 < 1 ∧ B.mks h 24 (some [.nils]) b b fun f h => zd (zu.l82 z9.E C Q (s 0) f) [(.int .i64 0)] h) (eT hC (fun s h => zd (zu.l103 z9.E C Q (s 0)) [(s 3)] h) hR (fun s h hR => eK (eL hC [0] [3] (on1 (zu.l103 z9.E C Q)) hR (fun Y9 s h hR => eT hC (fun s h => zd (zu.l93 z9.E C Q Y9 (s 0) (s 3)) [(.int .i64 0)] h) hR (fun s h hR => eS hC (fun s h => B.pv (V.bin .add (s 3) (.int .i64 1)) fun g => Y9 [g] h) (eK (eT hC (fun s h => zd (zu.l93 z9.E C Q Y9 (s 0) (s 3)) [(s 4)] h) hR (fun s h hR => eK (eL hC [0, 3] [4] (on2 (zu.l93 z9.E C Q Y9)) hR (fun Y10 s h hR => e1 hR))))) (fun s h hR => e1 hR)))))) (fun s h hR => eT hC (fun s h => zd (zu.l82 z9.E C Q (s 0) (s 5)) [(.int .i64 0)] h) hR (fun s h hR => eS hC (fun s h => zd (zu.l59 z9.E C Q (s 0) (s 5)) [(.int .i64 0)] h) (eT hC (fun s h => zd (zu.l82 z9.E C Q (s 0) (s 5)) [(s 6)] h) hR (fun s h hR => eK (eL hC [0, 5] [6] (on2 (zu.l82 z9.E C Q)) hR (fun Y7 s h hR => eT hC (fun s h => B.pv (V.idxS 1 (s 0) (s 6)) fun i => B.ld h i fun j => zd (zu.l69 z9.E C Q Y7 (s 0) (s 5) (s 6)) [j, (.int .i64 0)] h) hR (fun s h hR => eS hC (fun s h => B.pv (V.bin .add (s 6) (.int .i64 1)) fun a => Y7 [a] h) (eK (eT hC (fun s h => zd (zu.l69 z9.E C Q Y7 (s 0) (s 5) (s 6)) [(s 7), (.int .i64 0)] h) hR (fun s h hR => eS hC (fun s h => B.pv (V.idxS 1 (s 5) (s 6)) fun k => B.st h k (s 7) fun h => B.pv (V.bin .add (s 6) (.int .i64 1)) fun a => Y7 [a] h) (eT hC (fun s h => zd (zu.l69 z9.E C Q Y7 (s 0) (s 5) (s 6)) [(s 7), (s 8)] h) hR (fun s h hR => eK (eL hC [0, 5, 6] [7, 8] (on3 (zu.l69 z9.E C Q Y7)) hR (fun Y8 s h hR => e1 hR)))) (fun s h hR => e1 hR)))) (fun s h hR => e1 hR)))))) (fun s h hR => eS hC (fun s h => zd (zu.l40 z9.E C Q (s 0) (s 5)) [(.int .i64 0)] h) (eT hC (fun s h => zd (zu.l59 z9.E C Q (s 0) (s 5)) [(s 9)] h) hR (fun s h hR => eK (eL hC [0, 5] [9] (on2 (zu.l59 z9.E C Q)) hR (fun Y5 s h hR => eT hC (fun s h => zd (zu.l49 z9.E C Q Y5 (s 0) (s 5) (s 9)) [(.int .i64 0)] h) hR (fun s h hR => eS hC (fun s h => B.pv (V.bin .add (s 9) (.int .i64 1)) fun l => Y5 [l] h) (eK (eT hC (fun s h => zd (zu.l49 z9.E C Q Y5 (s 0) (s 5) (s 9)) [(s 10)] h) hR (fun s h hR => eK (eL hC [0, 5, 9] [10] (on3 (zu.l49 z9.E C Q Y5)) hR (fun Y6 s h hR => e1 hR))))) (fun s h hR => e1 hR)))))) (fun s h hR => eS hC (fun s h => zd (zu.l15 z9.E C Q (s 0) (s 5)) [(.int .i64 0)] h) (eT hC (fun s h => zd (zu.l40 z9.E C Q (s 0) (s 5)) [(s 11)] h) hR (fun s h hR => eK (eL hC [0, 5] [11] (on2 (zu.l40 z9.E C Q)) hR (fun Y3 s h hR => eT hC (fun s h => 0 < 6 ∧ B.mks h 56 (some [.int .i64 0, .str [], .int .i64 0, .int .i64 0, .int .i64 0, .bool false]) (.int .i64 64) (.int .i64 64) fun c h => zd (zu.l26 z9.E C Q Y3 (s 0) (s 5) (s 11) c) [(.int .i64 0)] h) hR (fun s h hR => eS hC (fun s h => B.pv (V.bin .add (s 11) (.int .i64 1)) fun d => Y3 [d] h) (eK (eT hC (fun s h => zd (zu.l26 z9.E C Q Y3 (s 0) (s 5) (s 11) (s 12)) [(.int .i64 0)] h) hR (fun s h hR => eS hC (fun s h => zu.k22 z9.E C Q Y3 (s 0) (s 5) (s 11) (s 12) h) (eT hC (fun s h => zd (zu.l26 z9.E C Q Y3 (s 0) (s 5) (s 11) (s 12)) [(s 13)] h) hR (fun s h hR => eK (eL hC [0, 5, 11, 12] [13] (on4 (zu.l26 z9.E C Q Y3)) hR (fun Y4 s h hR => e1 hR)))) (fun s h hR => e1 hR)))) (fun s h hR => e1 hR)))))) (fun s h hR => eS hC (fun s h => Q (.bool true) h) (eT hC (fun s h => zd (zu.l15 z9.E C Q (s 0) (s 5)) [(s 14)] h) hR (fun s h hR => eK (eL hC [0, 5] [14] (on2 (zu.l15 z9.E C Q)) hR (fun Y1 s h hR => eT hC (fun s h => zd (zu.l5 z9.E C Q Y1 (s 0) (s 5) (s 14)) [(.int .i64 0)] h) hR (fun s h hR => eS hC (fun s h => B.pv (V.bin .add (s 14) (.int .i64 1)) fun e => Y1 [e] h) (eK (eT hC (fun s h => zd (zu.l5 z9.E C Q Y1 (s 0) (s 5) (s 14)) [(s 15)] h) hR (fun s h hR => eK (eL hC [0, 5, 14] [15] (on3 (zu.l5 z9.E C Q Y1)) hR (fun Y2 s h hR => e1 hR))))) (fun s h hR => e1 hR)))))) (fun s h hR => e1 hR)))))))
theorem z9.imp : z9.Imp (AC P) N := fun a h Q hR => eF mixed (fn := Tryz.f122) (fun hC => z9.L hC (dn Q) (zbb [a]) h hR)
def zfn.I : Bx := ⟨[], [], 193, [(7, pz [(7, [3])] 10), (24, pz [(9, [3, 6]), (30, [24, 27])] 35), (41, pz [(9, [3, 6]), (22, [16, 19])] 26)]⟩
def z6.I : Bx := ⟨[], [], 193, [(7, pz [(7, [3])] 10), (24, pz [(9, [3, 6]), (30, [24, 27])] 35), (41, pz [(9, [3, 6]), (22, [16, 19])] 26)]⟩
abbrev z6.E : zfz := opsF 3 24 [.int .i64 0, .int .i64 0, .int .i64 0] (N 78) [.i .i64, .i .i64, .i .i64]
theorem z6.L : LkT P z6.I Tryz.f124 fun C Q s h => z6.cps C N (s 0) h Q := fun {C} hC Q s h hR => eT hC (fun s h => zd (zu.l103 z6.E C Q (s 0)) [(.int .i64 0)] h) hR (fun s h hR => eS hC (fun s h => B.pv (V.zj (s 0)) fun b => 0 < 1 ∧ B.mks h 24 (some [.nils]) b b fun f h => zd (zu.l82 z6.E C Q (s 0) f) [(.int .i64 0)] h) (eT hC (fun s h => zd (zu.l103 z6.E C Q (s 0)) [(s 3)] h) hR (fun s h hR => eK (eL hC [0] [3] (on1 (zu.l103 z6.E C Q)) hR (fun Y9 s h hR => eT hC (fun s h => zd (zu.l93 z6.E C Q Y9 (s 0) (s 3)) [(.int .i64 0)] h) hR (fun s h hR => eS hC (fun s h => B.pv (V.bin .add (s 3) (.int .i64 1)) fun g => Y9 [g] h) (eK (eT hC (fun s h => zd (zu.l93 z6.E C Q Y9 (s 0) (s 3)) [(s 4)] h) hR (fun s h hR => eK (eL hC [0, 3] [4] (on2 (zu.l93 z6.E C Q Y9)) hR (fun Y10 s h hR => e1 hR))))) (fun s h hR => e1 hR)))))) (fun s h hR => eT hC (fun s h => zd (zu.l82 z6.E C Q (s 0) (s 5)) [(.int .i64 0)] h) hR (fun s h hR => eS hC (fun s h => zd (zu.l59 z6.E C Q (s 0) (s 5)) [(.int .i64 0)] h) (eT hC (fun s h => zd (zu.l82 z6.E C Q (s 0) (s 5)) [(s 6)] h) hR (fun s h hR => eK (eL hC [0, 5] [6] (on2 (zu.l82 z6.E C Q)) hR (fun Y7 s h hR => eT hC (fun s h => B.pv (V.idxS 1 (s 0) (s 6)) fun i => B.ld h i fun j => zd (zu.l69 z6.E C Q Y7 (s 0) (s 5) (s 6)) [j, (.int .i64 0)] h) hR (fun s h hR => eS hC (fun s h => B.pv (V.bin .add (s 6) (.int .i64 1)) fun a => Y7 [a] h) (eK (eT hC (fun s h => zd (zu.l69 z6.E C Q Y7 (s 0) (s 5) (s 6)) [(s 7), (.int .i64 0)] h) hR (fun s h hR => eS hC (fun s h => B.pv (V.idxS 1 (s 5) (s 6)) fun k => B.st h k (s 7) fun h => B.pv (V.bin .add (s 6) (.int .i64 1)) fun a => Y7 [a] h) (eT hC (fun s h => zd (zu.l69 z6.E C Q Y7 (s 0) (s 5) (s 6)) [(s 7), (s 8)] h) hR (fun s h hR => eK (eL hC [0, 5, 6] [7, 8] (on3 (zu.l69 z6.E C Q Y7)) hR (fun Y8 s h hR => e1 hR)))) (fun s h hR => e1 hR)))) (fun s h hR => e1 hR)))))) (fun s h hR => eS hC (fun s h => zd (zu.l40 z6.E C Q (s 0) (s 5)) [(.int .i64 0)] h) (eT hC (fun s h => zd (zu.l59 z6.E C Q (s 0) (s 5)) [(s 9)] h) hR (fun s h hR => eK (eL hC [0, 5] [9] (on2 (zu.l59 z6.E C Q)) hR (fun Y5 s h hR => eT hC (fun s h => zd (zu.l49 z6.E C Q Y5 (s 0) (s 5) (s 9)) [(.int .i64 0)] h) hR (fun s h hR => eS hC (fun s h => B.pv (V.bin .add (s 9) (.int .i64 1)) fun l => Y5 [l] h) (eK (eT hC (fun s h => zd (zu.l49 z6.E C Q Y5 (s 0) (s 5) (s 9)) [(s 10)] h) hR (fun s h hR => eK (eL hC [0, 5, 9] [10] (on3 (zu.l49 z6.E C Q Y5)) hR (fun Y6 s h hR => e1 hR))))) (fun s h hR => e1 hR)))))) (fun s h hR => eS hC (fun s h => zd (zu.l15 z6.E C Q (s 0) (s 5)) [(.int .i64 0)] h) (eT hC (fun s h => zd (zu.l40 z6.E C Q (s 0) (s 5)) [(s 11)] h) hR (fun s h hR => eK (eL hC [0, 5] [11] (on2 (zu.l40 z6.E C Q)) hR (fun Y3 s h hR => eT hC (fun s h => 0 < 3 ∧ B.mks h 24 (some [.int .i64 0, .int .i64 0, .int .i64 0]) (.int .i64 64) (.int .i64 64) fun c h => zd (zu.l26 z6.E C Q Y3 (s 0) (s 5) (s 11) c) [(.int .i64 0)] h) hR (fun s h hR => eS hC (fun s h => B.pv (V.bin .add (s 11) (.int .i64 1)) fun d => Y3 [d] h) (eK (eT hC (fun s h => zd (zu.l26 z6.E C Q Y3 (s 0) (s 5) (s 11) (s 12)) [(.int .i64 0)] h) hR (fun s h hR => eS hC (fun s h => zu.k22 z6.E C Q Y3 (s 0) (s 5) (s 11) (s 12) h) (eT hC (fun s h => zd (zu.l26 z6.E C Q Y3 (s 0) (s 5) (s 11) (s 12)) [(s 13)] h) hR (fun s h hR => eK (eL hC [0, 5, 11, 12] [13] (on4 (zu.l26 z6.E C Q Y3)) hR (fun Y4 s h hR => e1 hR)))) (fun s h hR => e1 hR)))) (fun s h hR => e1 hR)))))) (fun s h hR => eS hC (fun s h => Q (.bool true) h) (eT hC (fun s h => zd (zu.l15 z6.E C Q (s 0) (s 5)) [(s 14)] h) hR (fun s h hR => eK (eL hC [0, 5] [14] (on2 (zu.l15 z6.E C Q)) hR (fun Y1 s h hR => eT hC (fun s h => zd (zu.l5 z6.E C Q Y1 (s 0) (s 5) (s 14)) [(.int .i64 0)] h) hR (fun s h hR => eS hC (fun s h => B.pv (V.bin .add (s 14) (.int .i64 1)) fun e => Y1 [e] h) (eK (eT hC (fun s h => zd (zu.l5 z6.E C Q Y1 (s 0) (s 5) (s 14)) [(s 15)] h) hR (fun s h hR => eK (eL hC [0, 5, 14] [15] (on3 (zu.l5 z6.E C Q Y1)) hR (fun Y2 s h hR => e1 hR))))) (fun s h hR => e1 hR)))))) (fun s h hR => e1 hR)))))))
theorem z6.imp : z6.Imp (AC P) N := fun a h Q hR => eF mixed (fn := Tryz.f124) (fun hC => z6.L hC (dn Q) (zbb [a]) h hR)
def zfs.I : Bx := ⟨[], [], 193, [(7, pz [(7, [3])] 10), (24, pz [(9, [3, 6]), (30, [24, 27])] 35), (41, pz [(9, [3, 6]), (22, [16, 19])] 26)]⟩
def zfw.I : Bx := ⟨[], [], 193, [(7, pz [(7, [3])] 10), (24, pz [(9, [3, 6]), (30, [24, 27])] 35), (41, pz [(9, [3, 6]), (22, [16, 19])] 26)]⟩
def zfv.I : Bx := ⟨[], [], 193, [(7, pz [(7, [3])] 10), (24, pz [(9, [3, 6]), (30, [24, 27])] 35), (41, pz [(9, [3, 6]), (22, [16, 19])] 26)]⟩
def zgb.I : Bx := ⟨[], [], 193, [(7, pz [(7, [3])] 10), (24, pz [(9, [3, 6]), (30, [24, 27])] 35), (41, pz [(9, [3, 6]), (22, [16, 19])] 26)]⟩
def zt.I : Bx := ⟨[], [], 193, [(7, pz [(7, [3])] 10), (24, pz [(9, [3, 6]), (30, [24, 27])] 35), (41, pz [(9, [3, 6]), (22, [16, 19])] 26)]⟩
abbrev zt.E (C : CSem) : zfz := opsD C 7 96 [.int .i64 0, .int .i64 0, .int .i64 0, .str [], .int .u8 0, .nils, .nils] (N 114) (N 42)
theorem zt.L : LkT P zt.I Tryz.f129 fun C Q s h => zt.cps C N (s 0) h Q := fun {C} hC Q s h hR => eT hC (fun s h => zd (zu.l103 (zt.E C) C Q (s 0)) [(.int .i64 0)] h) hR (fun s h hR => eS hC (fun s h => B.pv (V.zj (s 0)) fun b => 0 < 1 ∧ B.mks h 24 (some [.nils]) b b fun f h => zd (zu.l82 (zt.E C) C Q (s 0) f) [(.int .i64 0)] h) (eT hC (fun s h => zd (zu.l103 (zt.E C) C Q (s 0)) [(s 3)] h) hR (fun s h hR => eK (eL hC [0] [3] (on1 (zu.l103 (zt.E C) C Q)) hR (fun Y9 s h hR => eT hC (fun s h => zd (zu.l93 (zt.E C) C Q Y9 (s 0) (s 3)) [(.int .i64 0)] h) hR (fun s h hR => eS hC (fun s h => B.pv (V.bin .add (s 3) (.int .i64 1)) fun g => Y9 [g] h) (eK (eT hC (fun s h => zd (zu.l93 (zt.E C) C Q Y9 (s 0) (s 3)) [(s 4)] h) hR (fun s h hR => eK (eL hC [0, 3] [4] (on2 (zu.l93 (zt.E C) C Q Y9)) hR (fun Y10 s h hR => e1 hR))))) (fun s h hR => e1 hR)))))) (fun s h hR => eT hC (fun s h => zd (zu.l82 (zt.E C) C Q (s 0) (s 5)) [(.int .i64 0)] h) hR (fun s h hR => eS hC (fun s h => zd (zu.l59 (zt.E C) C Q (s 0) (s 5)) [(.int .i64 0)] h) (eT hC (fun s h => zd (zu.l82 (zt.E C) C Q (s 0) (s 5)) [(s 6)] h) hR (fun s h hR => eK (eL hC [0, 5] [6] (on2 (zu.l82 (zt.E C) C Q)) hR (fun Y7 s h hR => eT hC (fun s h => B.pv (V.idxS 1 (s 0) (s 6)) fun i => B.ld h i fun j => zd (zu.l69 (zt.E C) C Q Y7 (s 0) (s 5) (s 6)) [j, (.int .i64 0)] h) hR (fun s h hR => eS hC (fun s h => B.pv (V.bin .add (s 6) (.int .i64 1)) fun a => Y7 [a] h) (eK (eT hC (fun s h => zd (zu.l69 (zt.E C) C Q Y7 (s 0) (s 5) (s 6)) [(s 7), (.int .i64 0)] h) hR (fun s h hR => eS hC (fun s h => B.pv (V.idxS 1 (s 5) (s 6)) fun k => B.st h k (s 7) fun h => B.pv (V.bin .add (s 6) (.int .i64 1)) fun a => Y7 [a] h) (eT hC (fun s h => zd (zu.l69 (zt.E C) C Q Y7 (s 0) (s 5) (s 6)) [(s 7), (s 8)] h) hR (fun s h hR => eK (eL hC [0, 5, 6] [7, 8] (on3 (zu.l69 (zt.E C) C Q Y7)) hR (fun Y8 s h hR => e1 hR)))) (fun s h hR => e1 hR)))) (fun s h hR => e1 hR)))))) (fun s h hR => eS hC (fun s h => zd (zu.l40 (zt.E C) C Q (s 0) (s 5)) [(.int .i64 0)] h) (eT hC (fun s h => zd (zu.l59 (zt.E C) C Q (s 0) (s 5)) [(s 9)] h) hR (fun s h hR => eK (eL hC [0, 5] [9] (on2 (zu.l59 (zt.E C) C Q)) hR (fun Y5 s h hR => eT hC (fun s h => zd (zu.l49 (zt.E C) C Q Y5 (s 0) (s 5) (s 9)) [(.int .i64 0)] h) hR (fun s h hR => eS hC (fun s h => B.pv (V.bin .add (s 9) (.int .i64 1)) fun l => Y5 [l] h) (eK (eT hC (fun s h => zd (zu.l49 (zt.E C) C Q Y5 (s 0) (s 5) (s 9)) [(s 10)] h) hR (fun s h hR => eK (eL hC [0, 5, 9] [10] (on3 (zu.l49 (zt.E C) C Q Y5)) hR (fun Y6 s h hR => e1 hR))))) (fun s h hR => e1 hR)))))) (fun s h hR => eS hC (fun s h => zd (zu.l15 (zt.E C) C Q (s 0) (s 5)) [(.int .i64 0)] h) (eT hC (fun s h => zd (zu.l40 (zt.E C) C Q (s 0) (s 5)) [(s 11)] h) hR (fun s h hR => eK (eL hC [0, 5] [11] (on2 (zu.l40 (zt.E C) C Q)) hR (fun Y3 s h hR => eT hC (fun s h => 0 < 7 ∧ B.mks h 96 (some [.int .i64 0, .int .i64 0, .int .i64 0, .str [], .int .u8 0, .nils, .nils]) (.int .i64 64) (.int .i64 64) fun c h => zd (zu.l26 (zt.E C) C Q Y3 (s 0) (s 5) (s 11) c) [(.int .i64 0)] h) hR (fun s h hR => eS hC (fun s h => B.pv (V.bin .add (s 11) (.int .i64 1)) fun d => Y3 [d] h) (eK (eT hC (fun s h => zd (zu.l26 (zt.E C) C Q Y3 (s 0) (s 5) (s 11) (s 12)) [(.int .i64 0)] h) hR (fun s h hR => eS hC (fun s h => zu.k22 (zt.E C) C Q Y3 (s 0) (s 5) (s 11) (s 12) h) (eT hC (fun s h => zd (zu.l26 (zt.E C) C Q Y3 (s 0) (s 5) (s 11) (s 12)) [(s 13)] h) hR (fun s h hR => eK (eL hC [0, 5, 11, 12] [13] (on4 (zu.l26 (zt.E C) C Q Y3)) hR (fun Y4 s h hR => e1 hR)))) (fun s h hR => e1 hR)))) (fun s h hR => e1 hR)))))) (fun s h hR => eS hC (fun s h => Q (.bool true) h) (eT hC (fun s h => zd (zu.l15 (zt.E C) C Q (s 0) (s 5)) [(s 14)] h) hR (fun s h hR => eK (eL hC [0, 5] [14] (on2 (zu.l15 (zt.E C) C Q)) hR (fun Y1 s h hR => eT hC (fun s h => zd (zu.l5 (zt.E C) C Q Y1 (s 0) (s 5) (s 14)) [(.int .i64 0)] h) hR (fun s h hR => eS hC (fun s h => B.pv (V.bin .add (s 14) (.int .i64 1)) fun e => Y1 [e] h) (eK (eT hC (fun s h => zd (zu.l5 (zt.E C) C Q Y1 (s 0) (s 5) (s 14)) [(s 15)] h) hR (fun s h hR => eK (eL hC [0, 5, 14] [15] (on3 (zu.l5 (zt.E C) C Q Y1)) hR (fun Y2 s h hR => e1 hR))))) (fun s h hR => e1 hR)))))) (fun s h hR => e1 hR)))))))
theorem zt.imp : zt.Imp (AC P) N := fun a h Q hR => eF mixed (fn := Tryz.f129) (fun hC => zt.L hC (dn Q) (zbb [a]) h hR)
def zfa.I : Bx := ⟨[], [], 193, [(7, pz [(7, [3])] 10), (24, pz [(9, [3, 6]), (30, [24, 27])] 35), (41, pz [(9, [3, 6]), (22, [16, 19])] 26)]⟩
def z7.I : Bx := ⟨[], [], 193, [(7, pz [(7, [3])] 10), (24, pz [(9, [3, 6]), (30, [24, 27])] 35), (41, pz [(9, [3, 6]), (22, [16, 19])] 26)]⟩
abbrev z7.E (C : CSem) : zfz := opsD C 2 48 [.nils, .nils] (N 117) (N 118)
theorem z7.L : LkT P z7.I Tryz.f131 fun C Q s h => z7.cps C N (s 0) h Q := fun {C} hC Q s h hR => eT hC (fun s h => zd (zu.l103 (z7.E C) C Q (s 0)) [(.int .i64 0)] h) hR (fun s h hR => eS hC (fun s h => B.pv (V.zj (s 0)) fun b => 0 < 1 ∧ B.mks h 24 (some [.nils]) b b fun f h => zd (zu.l82 (z7.E C) C Q (s 0) f) [(.int .i64 0)] h) (eT hC (fun s h => zd (zu.l103 (z7.E C) C Q (s 0)) [(s 3)] h) hR (fun s h hR => eK (eL hC [0] [3] (on1 (zu.l103 (z7.E C) C Q)) hR (fun Y9 s h hR => eT hC (fun s h => zd (zu.l93 (z7.E C) C Q Y9 (s 0) (s 3)) [(.int .i64 0)] h) hR (fun s h hR => eS hC (fun s h => B.pv (V.bin .add (s 3) (.int .i64 1)) fun g => Y9 [g] h) (eK (eT hC (fun s h => zd (zu.l93 (z7.E C) C Q Y9 (s 0) (s 3)) [(s 4)] h) hR (fun s h hR => eK (eL hC [0, 3] [4] (on2 (zu.l93 (z7.E C) C Q Y9)) hR (fun Y10 s h hR => e1 hR))))) (fun s h hR => e1 hR)))))) (fun s h hR => eT hC (fun s h => zd (zu.l82 (z7.E C) C Q (s 0) (s 5)) [(.int .i64 0)] h) hR (fun s h hR => eS hC (fun s h => zd (zu.l59 (z7.E C) C Q (s 0) (s 5)) [(.int .i64 0)] h) (eT hC (fun s h => zd (zu.l82 (z7.E C) C Q (s 0) (s 5)) [(s 6)] h) hR (fun s h hR => eK (eL hC [0, 5] [6] (on2 (zu.l82 (z7.E C) C Q)) hR (fun Y7 s h hR => eT hC (fun s h => B.pv (V.idxS 1 (s 0) (s 6)) fun i => B.ld h i fun j => zd (zu.l69 (z7.E C) C Q Y7 (s 0) (s 5) (s 6)) [j, (.int .i64 0)] h) hR (fun s h hR => eS hC (fun s h => B.pv (V.bin .add (s 6) (.int .i64 1)) fun a => Y7 [a] h) (eK (eT hC (fun s h => zd (zu.l69 (z7.E C) C Q Y7 (s 0) (s 5) (s 6)) [(s 7), (.int .i64 0)] h) hR (fun s h hR => eS hC (fun s h => B.pv (V.idxS 1 (s 5) (s 6)) fun k => B.st h k (s 7) fun h => B.pv (V.bin .add (s 6) (.int .i64 1)) fun a => Y7 [a] h) (eT hC (fun s h => zd (zu.l69 (z7.E C) C Q Y7 (s 0) (s 5) (s 6)) [(s 7), (s 8)] h) hR (fun s h hR => eK (eL hC [0, 5, 6] [7, 8] (on3 (zu.l69 (z7.E C) C Q Y7)) hR (fun Y8 s h hR => e1 hR)))) (fun s h hR => e1 hR)))) (fun s h hR => e1 hR)))))) (fun s h hR => eS hC (fun s h => zd (zu.l40 (z7.E C) C Q (s 0) (s 5)) [(.int .i64 0)] h) (eT hC (fun s h => zd (zu.l59 (z7.E C) C Q (s 0) (s 5)) [(s 9)] h) hR (fun s h hR => eK (eL hC [0, 5] [9] (on2 (zu.l59 (z7.E C) C Q)) hR (fun Y5 s h hR => eT hC (fun s h => zd (zu.l49 (z7.E C) C Q Y5 (s 0) (s 5) (s 9)) [(.int .i64 0)] h) hR (fun s h hR => eS hC (fun s h => B.pv (V.bin .add (s 9) (.int .i64 1)) fun l => Y5 [l] h) (eK (eT hC (fun s h => zd (zu.l49 (z7.E C) C Q Y5 (s 0) (s 5) (s 9)) [(s 10)] h) hR (fun s h hR => eK (eL hC [0, 5, 9] [10] (on3 (zu.l49 (z7.E C) C Q Y5)) hR (fun Y6 s h hR => e1 hR))))) (fun s h hR => e1 hR)))))) (fun s h hR => eS hC (fun s h => zd (zu.l15 (z7.E C) C Q (s 0) (s 5)) [(.int .i64 0)] h) (eT hC (fun s h => zd (zu.l40 (z7.E C) C Q (s 0) (s 5)) [(s 11)] h) hR (fun s h hR => eK (eL hC [0, 5] [11] (on2 (zu.l40 (z7.E C) C Q)) hR (fun Y3 s h hR => eT hC (fun s h => 0 < 2 ∧ B.mks h 48 (some [.nils, .nils]) (.int .i64 64) (.int .i64 64) fun c h => zd (zu.l26 (z7.E C) C Q Y3 (s 0) (s 5) (s 11) c) [(.int .i64 0)] h) hR (fun s h hR => eS hC (fun s h => B.pv (V.bin .add (s 11) (.int .i64 1)) fun d => Y3 [d] h) (eK (eT hC (fun s h => zd (zu.l26 (z7.E C) C Q Y3 (s 0) (s 5) (s 11) (s 12)) [(.int .i64 0)] h) hR (fun s h hR => eS hC (fun s h => zu.k22 (z7.E C) C Q Y3 (s 0) (s 5) (s 11) (s 12) h) (eT hC (fun s h => zd (zu.l26 (z7.E C) C Q Y3 (s 0) (s 5) (s 11) (s 12)) [(s 13)] h) hR (fun s h hR => eK (eL hC [0, 5, 11, 12] [13] (on4 (zu.l26 (z7.E C) C Q Y3)) hR (fun Y4 s h hR => e1 hR)))) (fun s h hR => e1 hR)))) (fun s h hR => e1 hR)))))) (fun s h hR => eS hC (fun s h => Q (.bool true) h) (eT hC (fun s h => zd (zu.l15 (z7.E C) C Q (s 0) (s 5)) [(s 14)] h) hR (fun s h hR => eK (eL hC [0, 5] [14] (on2 (zu.l15 (z7.E C) C Q)) hR (fun Y1 s h hR => eT hC (fun s h => zd (zu.l5 (z7.E C) C Q Y1 (s 0) (s 5) (s 14)) [(.int .i64 0)] h) hR (fun s h hR => eS hC (fun s h => B.pv (V.bin .add (s 14) (.int .i64 1)) fun e => Y1 [e] h) (eK (eT hC (fun s h => zd (zu.l5 (z7.E C) C Q Y1 (s 0) (s 5) (s 14)) [(s 15)] h) hR (fun s h hR => eK (eL hC [0, 5, 14] [15] (on3 (zu.l5 (z7.E C) C Q Y1)) hR (fun Y2 s h hR => e1 hR))))) (fun s h hR => e1 hR)))))) (fun s h hR => e1 hR)))))))
theorem z7.imp : z7.Imp (AC P) N := fun a h Q hR => eF mixed (fn := Tryz.f131) (fun hC => z7.L hC (dn Q) (zbb [a]) h hR)
def zfo.I : Bx := ⟨[], [], 193, [(7, pz [(7, [3])] 10), (24, pz [(9, [3, 6]), (30, [24, 27])] 35), (41, pz [(9, [3, 6]), (22, [16, 19])] 26)]⟩
def zfx.I : Bx := ⟨[], [], 193, [(7, pz [(7, [3])] 10), (24, pz [(9, [3, 6]), (30, [24, 27])] 35), (41, pz [(9, [3, 6]), (22, [16, 19])] 26)]⟩
def ze1.I : Bx := ⟨[], [], 193, [(7, pz [(7, [3])] 10), (24, pz [(9, [3, 6]), (30, [24, 27])] 35), (41, pz [(9, [3, 6]), (22, [16, 19])] 26)]⟩
def zft.I : Bx := ⟨[], [], 193, [(7, pz [(7, [3])] 10), (24, pz [(9, [3, 6]), (30, [24, 27])] 35), (41, pz [(9, [3, 6]), (22, [16, 19])] 26)]⟩
def ze0.I : Bx := ⟨[], [], 193, [(7, pz [(7, [3])] 10), (24, pz [(9, [3, 6]), (30, [24, 27])] 35), (41, pz [(9, [3, 6]), (22, [16, 19])] 26)]⟩
def zfr.I : Bx := ⟨[], [], 193, [(7, pz [(7, [3])] 10), (24, pz [(9, [3, 6]), (30, [24, 27])] 35), (41, pz [(9, [3, 6]), (22, [16, 19])] 26)]⟩
def zfq.I : Bx := ⟨[], [], 193, [(7, pz [(7, [3])] 10), (24, pz [(9, [3, 6]), (30, [24, 27])] 35), (41, pz [(9, [3, 6]), (22, [16, 19])] 26)]⟩
def zcw.I : Bx := ⟨[], [], 25, []⟩
theorem zcw.L : LkT P zcw.I Tryz.f139 fun C Q s h => zcw.cps C N (s 0) h Q := fun {C} hC Q s h hR => eT hC (fun s h => zcw.k3 C N Q (s 0) h) hR (fun s h hR => eT hC (fun s h => B.appW h 1 1 (s 3) (s 0) fun a h => zd (zu4.l4 C 1 (N 64) (.int .u8 0) 1 Q (s 0)) [a, (.int .i64 0)] h) hR (fun s h hR => eT hC (fun s h => zd (zu4.l4 C 1 (N 64) (.int .u8 0) 1 Q (s 0)) [(s 3), (.int .i64 0)] h) hR (fun s h hR => eS hC (fun s h => B.pv (V.zj (s 0)) fun b => B.pv (V.zf1 1 (s 3) none (some b)) fun c => Q c h) (eT hC (fun s h => zd (zu4.l4 C 1 (N 64) (.int .u8 0) 1 Q (s 0)) [(s 3), (s 4)] h) hR (fun s h hR => eK (eL hC [0] [3, 4] (on1 (zu4.l4 C 1 (N 64) (.int .u8 0) 1 Q)) hR (fun Y1 s h hR => e1 hR)))) (fun s h hR => e1 hR))))
theorem zcw.imp : zcw.Imp (AC P) N := fun a h Q hR => eF mixed (fn := Tryz.f139) (fun hC => zcw.L hC (dn Q) (zbb [a]) h hR)
def zcq.I : Bx := ⟨[], [], 12, []⟩
theorem zcq.L : LkT P zcq.I Tryz.f140 fun C Q s h => zcq.cps C N (s 0) (s 1) h Q := fun {C} hC Q s h hR => e1 hR
theorem zcq.imp : zcq.Imp (AC P) N := fun a b h Q hR => eF mixed (fn := Tryz.f140) (fun hC => zcq.L hC (dn Q) (zbb [a, b]) h hR)
theorem zi6.imp : zi6.Imp (AC P) N := fun x y a b S T h Q hx hy hq => zss (fn := Tryz.f141) (by kernel_rfl) (by kernel_rfl) (by kernel_rfl) (by kernel_rfl) (by kernel_rfl) hx hy hq
def zb3.I : Bx := ⟨[], [], 34, []⟩
theorem zb3.L : LkT P zb3.I Tryz.f142 fun C Q s h => zb3.cps C N (s 0) h Q := fun {C} hC Q s h hR => e1 hR
theorem zb3.imp : zb3.Imp (AC P) N := fun a h Q hR => eF mixed (fn := Tryz.f142) (fun hC => zb3.L hC (dn Q) (zbb [a]) h hR)
def zci.I : Bx := ⟨[], [], 58, [(7, pz [(30, [25])] 35)]⟩
theorem zci.L : LkT P zci.I Tryz.f143 fun C Q s h => zci.cps C N (s 0) (s 1) h Q := fun {C} hC Q s h hR => eT hC (fun s h => zci.k4 C N Q (s 0) (s 1) h) hR (fun s h hR => eT hC (fun s h => zci.k3 C N Q (s 0) (s 1) h) hR (fun s h hR => eT hC (fun s h => zd (zv1.l4 C (N 64) 1 Q (s 1) (s 5)) [(.int .i64 0)] h) hR (fun s h hR => eS hC (fun s h => Q (.bool true) h) (eT hC (fun s h => zd (zv1.l4 C (N 64) 1 Q (s 1) (s 5)) [(s 6)] h) hR (fun s h hR => eK (eL hC [1, 5] [6] (on2 (zv1.l4 C (N 64) 1 Q)) hR (fun Y1 s h hR => e1 hR)))) (fun s h hR => e1 hR))))
theorem zci.imp : zci.Imp (AC P) N := fun a b h Q hR => eF mixed (fn := Tryz.f143) (fun hC => zci.L hC (dn Q) (zbb [a, b]) h hR)
def zc2.I : Bx := ⟨[], [], 20, []⟩
theorem zc2.L : LkT P zc2.I Tryz.f144 fun C Q s h => zc2.cps C N (s 0) h Q := fun {C} hC Q s h hR => eT hC (fun s h => zd (zl4.l3 C 1 (N 64) (fun h p v K => B.st h p v K) 2 Q (s 2)) [(.int .i64 0)] h) hR (fun s h hR => eT hC (fun s h => zd (zl4.l3 C 1 (N 64) (fun h p v K => B.st h p v K) 2 Q (s 2)) [(s 3)] h) hR (fun s h hR => eK (eL hC [2] [3] (fun kv lv h Y1 => match kv with | [a] => zl4.l3 C 1 (N 64) (fun h p v K => B.st h p v K) 2 Q a lv h Y1 | _ => False) hR (fun Y1 s h hR => e1 hR))))
theorem zc2.imp : zc2.Imp (AC P) N := fun a h Q hR => eF mixed (fn := Tryz.f144) (fun hC => zc2.L hC (dn Q) (zbb [a]) h hR)
def zo.I : Bx := ⟨[], [], 60, [(1, pz [] 18), (8, pz [] 17)]⟩
theorem zo.L : LkT P zo.I Tryz.f145 fun C Q s h => zo.cps C N (s 0) (s 1) h Q := fun {C} hC Q s h hR => eT hC (fun s h => zo.k4 C N Q (s 0) (s 1) h) hR (fun s h hR => eT hC (fun s h => zd (zo.l3 C N Q (s 0) (s 1)) [(.int .u64 0), (.int .i64 0)] h) hR (fun s h hR => eT hC (fun s h => zd (zo.l3 C N Q (s 0) (s 1)) [(s 5), (.int .i64 0)] h) hR (fun s h hR => eS hC (fun s h => zo.k1 C N Q (s 0) (s 1) (s 5) h) (eT hC (fun s h => zd (zo.l3 C N Q (s 0) (s 1)) [(s 5), (s 6)] h) hR (fun s h hR => eK (eL hC [0, 1] [5, 6] (on2 (zo.l3 C N Q)) hR (fun Y1 s h hR => e1 hR)))) (fun s h hR => e1 hR))))
theorem zo.imp : zo.Imp (AC P) N := fun a b h Q hR => eF mixed (fn := Tryz.f145) (fun hC => zo.L hC (dn Q) (zbb [a, b]) h hR)
def zbt.I : Bx := ⟨[], [], 39, [(3, pz [] 17)]⟩
theorem zbt.L : LkT P zbt.I Tryz.f146 fun C Q s h => zbt.cps C N (s 0) h Q := fun {C} hC Q s h hR => e1 hR
theorem zbt.imp : zbt.Imp (AC P) N := fun a h Q hR => eF mixed (fn := Tryz.f146) (fun hC => zbt.L hC (dn Q) (zbb [a]) h hR)
def zdg.I : Bx := ⟨[4], [], 9, []⟩
theorem zdg.L : LkT P zdg.I Tryz.f148 fun C Q s h => zdg.cps C N (s 0) (s 1) h Q := fun {C} hC Q s h hR => e1 hR
theorem zdg.imp : zdg.Imp (AC P) N := fun a b h Q hR => eF mixed (fn := Tryz.f148) (fun hC => zdg.L hC (dn Q) (zbb [a, b]) h hR)
def zbw.I : Bx := ⟨[1, 5, 7], [8, 12, 17, 22, 27, 30, 37, 41, 46, 51, 55, 60, 65, 69, 76, 81, 87, 92, 103, 110, 114, 119], 124, []⟩
theorem zbw.L : LkT P zbw.I Tryz.f149 fun C Q s h => zbw.cps C N (s 0) h Q := fun {C} hC Q s h hR => eT hC (fun s h => zbw.k6 C N Q (s 125) h) hR (fun s h hR => eT hC (fun s h => zbw.k5 C N Q (s 3) (s 125) h) hR (fun s h hR => eT hC (fun s h => B.al (s 125) (B.pv (V.zf 5 (s 125)) fun b => B.pv (V.zj b) fun d => zd (zbw.l4 C N Q b d (s 125)) [(.int .i64 0)] h)) hR (fun s h hR => eS hC (fun s h => B.al (s 125) (B.pv (V.zf 6 (s 125)) fun a => B.pv (V.zj a) fun c => zd (zbw.l2 C N Q a c) [(.int .i64 0)] h)) (eT hC (fun s h => zd (zbw.l4 C N Q (s 93) (s 94) (s 125)) [(s 95)] h) hR (fun s h hR => eK (eL hC [93, 94, 125] [95] (on3 (zbw.l4 C N Q)) hR (fun Y2 s h hR => e1 hR)))) (fun s h hR => eS hC (fun s h => Q (.bool true) h) (eT hC (fun s h => zd (zbw.l2 C N Q (s 104) (s 105)) [(s 106)] h) hR (fun s h hR => eK (eL hC [104, 105] [106] (on2 (zbw.l2 C N Q)) hR (fun Y1 s h hR => e1 hR)))) (fun s h hR => e1 hR)))))
theorem zbw.imp : zbw.Imp (AC P) N := fun a h Q hR => eF mixed (fn := Tryz.f149) (fun hC => zbw.L hC (dn Q) (zbb [a]) h hR)
def ze8.I : Bx := ⟨[], [], 23, []⟩
theorem ze8.L : LkT P ze8.I Tryz.f150 fun C Q s h => ze8.cps C N (s 0) (s 1) (s 2) h Q := fun {C} hC Q s h hR => eT hC (fun s h => B.pv (V.bin .sub (s 2) (.int .i64 1)) fun a => zd (ze8.l2 C N Q (s 1)) [(s 0), a] h) hR (fun s h hR => eS hC (fun s h => Q (s 0) h) (eT hC (fun s h => zd (ze8.l2 C N Q (s 1)) [(s 0), (s 7)] h) hR (fun s h hR => eK (eL hC [1] [0, 7] (on1 (ze8.l2 C N Q)) hR (fun Y1 s h hR => e1 hR)))) (fun s h hR => e1 hR))
theorem ze8.imp : ze8.Imp (AC P) N := fun a b c h Q hR => eF mixed (fn := Tryz.f150) (fun hC => ze8.L hC (dn Q) (zbb [a, b, c]) h hR)
def zq.I : Bx := ⟨[], [], 31, [(3, pz [] 7)]⟩
theorem zq.L : LkT P zq.I Tryz.f151 fun C Q s h => zq.cps C N (s 0) (s 1) (s 2) h Q := fun {C} hC Q s h hR => eT hC (fun s h => zd (zq.l2 C N Q (s 0) (s 1) (s 2)) [(s 4)] h) hR (fun s h hR => eK (eL hC [0, 1, 2] [4] (on3 (zq.l2 C N Q)) hR (fun Y1 s h hR => e1 hR)))
theorem zq.imp : zq.Imp (AC P) N := fun a b c h Q hR => eF mixed (fn := Tryz.f151) (fun hC => zq.L hC (dn Q) (zbb [a, b, c]) h hR)
def zn.I : Bx := ⟨[], [], 68, [(1, pz [] 22), (5, pz [] 17)]⟩
theorem zn.L : LkT P zn.I Tryz.f152 fun C Q s h => zn.cps C N (s 0) (s 1) h Q := fun {C} hC Q s h hR => eT hC (fun s h => zn.k5 C N Q (s 0) (s 1) h) hR (fun s h hR => eT hC (fun s h => zn.k4 C N Q (s 0) (s 1) (.int .i64 0) h) hR (fun s h hR => eT hC (fun s h => zn.k4 C N Q (s 0) (s 1) (s 5) h) hR (fun s h hR => eS hC (fun s h => zn.k1 C N Q (s 0) (s 1) (s 5) h) (eT hC (fun s h => zd (zn.l3 C N Q (s 0) (s 1) (s 47) (s 48)) [(s 5), (s 49)] h) hR (fun s h hR => eK (eL hC [0, 1, 47, 48] [5, 49] (on4 (zn.l3 C N Q)) hR (fun Y1 s h hR => e1 hR)))) (fun s h hR => e1 hR))))
theorem zn.imp : zn.Imp (AC P) N := fun a b h Q hR => eF mixed (fn := Tryz.f152) (fun hC => zn.L hC (dn Q) (zbb [a, b]) h hR)
def zb0.I : Bx := ⟨[], [], 38, [(3, pz [] 17)]⟩
theorem zb0.L : LkT P zb0.I Tryz.f153 fun C Q s h => zb0.cps C N (s 0) h Q := fun {C} hC Q s h hR => e1 hR
theorem zb0.imp : zb0.Imp (AC P) N := fun a h Q hR => eF mixed (fn := Tryz.f153) (fun hC => zb0.L hC (dn Q) (zbb [a]) h hR)
def zbi.I : Bx := ⟨[], [], 26, []⟩
theorem zbi.L : LkT P zbi.I Tryz.f154 fun C Q s h => zbi.cps C N (s 0) (s 1) h Q := fun {C} hC Q s h hR => eT hC (fun s h => B.call C (N 65) [(s 0), (.int .i64 2)] h fun a h => zd (zbi.l2 C N Q (s 0) (s 1)) [.nils, a] h) hR (fun s h hR => eT hC (fun s h => B.call C (N 65) [(s 0), (.int .i64 2)] h fun a h => zd (zbi.l2 C N Q (s 0) (s 1)) [(s 5), a] h) hR (fun s h hR => eS hC (fun s h => Q (s 5) h) (eT hC (fun s h => zd (zbi.l2 C N Q (s 0) (s 1)) [(s 5), (s 6)] h) hR (fun s h hR => eK (eL hC [0, 1] [5, 6] (on2 (zbi.l2 C N Q)) hR (fun Y1 s h hR => e1 hR)))) (fun s h hR => e1 hR)))
theorem zbi.imp : zbi.Imp (AC P) N := fun a b h Q hR => eF mixed (fn := Tryz.f154) (fun hC => zbi.L hC (dn Q) (zbb [a, b]) h hR)
def zcg.I : Bx := ⟨[2, 3], [14, 15, 16, 17, 20, 25], 38, []⟩
theorem zcg.L : LkT P zcg.I Tryz.f155 fun C Q s h => zcg.cps C N (s 0) h Q := fun {C} hC Q s h hR => e1 hR
theorem zcg.imp : zcg.Imp (AC P) N := fun a h Q hR => eF mixed (fn := Tryz.f155) (fun hC => zcg.L hC (dn Q) (zbb [a]) h hR)
def zbh.I : Bx := ⟨[], [], 26, []⟩
theorem zbh.L : LkT P zbh.I Tryz.f156 fun C Q s h => zbh.cps C N (s 0) (s 1) h Q := fun {C} hC Q s h hR => eT hC (fun s h => B.call C (N 65) [(s 0), (.int .i64 2)] h fun a h => zd (zbh.l2 C N Q (s 0) (s 1)) [.nils, a] h) hR (fun s h hR => eT hC (fun s h => B.call C (N 65) [(s 0), (.int .i64 2)] h fun a h => zd (zbh.l2 C N Q (s 0) (s 1)) [(s 5), a] h) hR (fun s h hR => eS hC (fun s h => Q (s 5) h) (eT hC (fun s h => zd (zbh.l2 C N Q (s 0) (s 1)) [(s 5), (s 6)] h) hR (fun s h hR => eK (eL hC [0, 1] [5, 6] (on2 (zbh.l2 C N Q)) hR (fun Y1 s h hR => e1 hR)))) (fun s h hR => e1 hR)))
theorem zbh.imp : zbh.Imp (AC P) N := fun a b h Q hR => eF mixed (fn := Tryz.f156) (fun hC => zbh.L hC (dn Q) (zbb [a, b]) h hR)
def zcf.I : Bx := ⟨[2], [], 10, []⟩
theorem zcf.L : LkT P zcf.I Tryz.f157 fun C Q s h => zcf.cps C N (s 0) h Q := fun {C} hC Q s h hR => e1 hR
theorem zcf.imp : zcf.Imp (AC P) N := fun a h Q hR => eF mixed (fn := Tryz.f157) (fun hC => zcf.L hC (dn Q) (zbb [a]) h hR)
def zbk.I : Bx := ⟨[1], [5, 9, 13, 16, 20, 25, 30, 35, 38, 44, 48, 53, 58, 62, 69, 74, 80, 86, 92, 100, 106, 114, 123], 131, []⟩
theorem zbk.L : LkT P zbk.I Tryz.f158 fun C Q s h => zbk.cps C N (s 0) h Q := fun {C} hC Q s h hR => eT hC (fun s h => zbk.k7 C N Q (s 132) h) hR (fun s h hR => eT hC (fun s h => zbk.k6 C N Q (s 132) h) hR (fun s h hR => eT hC (fun s h => zbk.k5 C N Q (s 132) h) hR (fun s h hR => eT hC (fun s h => zd (zbk.l4 C N Q (s 132)) [(.int .i64 0)] h) hR (fun s h hR => eS hC (fun s h => zd (zbk.l2 C N Q (s 132)) [(.int .i64 0)] h) (eT hC (fun s h => zd (zbk.l4 C N Q (s 132)) [(s 3)] h) hR (fun s h hR => eK (eL hC [132] [3] (on1 (zbk.l4 C N Q)) hR (fun Y2 s h hR => e1 hR)))) (fun s h hR => eS hC (fun s h => Q (.bool true) h) (eT hC (fun s h => zd (zbk.l2 C N Q (s 132)) [(s 4)] h) hR (fun s h hR => eK (eL hC [132] [4] (on1 (zbk.l2 C N Q)) hR (fun Y1 s h hR => e1 hR)))) (fun s h hR => e1 hR))))))
theorem zbk.imp : zbk.Imp (AC P) N := fun a h Q hR => eF mixed (fn := Tryz.f158) (fun hC => zbk.L hC (dn Q) (zbb [a]) h hR)
def zce.I : Bx := ⟨[], [], 24, []⟩
theorem zce.L : LkT P zce.I Tryz.f159 fun C Q s h => zce.cps C N (s 0) (s 1) h Q := fun {C} hC Q s h hR => eT hC (fun s h => B.pv (V.bin .sub (s 1) (.int .i64 1)) fun a => zd (zce.l2 C N Q (s 0)) [.nils, a] h) hR (fun s h hR => eT hC (fun s h => B.pv (V.bin .sub (s 1) (.int .i64 1)) fun a => zd (zce.l2 C N Q (s 0)) [(s 5), a] h) hR (fun s h hR => eS hC (fun s h => Q (s 5) h) (eT hC (fun s h => zd (zce.l2 C N Q (s 0)) [(s 5), (s 6)] h) hR (fun s h hR => eK (eL hC [0] [5, 6] (on1 (zce.l2 C N Q)) hR (fun Y1 s h hR => e1 hR)))) (fun s h hR => e1 hR)))
theorem zce.imp : zce.Imp (AC P) N := fun a b h Q hR => eF mixed (fn := Tryz.f159) (fun hC => zce.L hC (dn Q) (zbb [a, b]) h hR)
def ze5.I : Bx := ⟨[2, 3], [10, 13, 14, 17, 18, 21, 26], 39, []⟩
theorem ze5.L : LkT P ze5.I Tryz.f160 fun C Q s h => ze5.cps C N (s 0) h Q := fun {C} hC Q s h hR => e1 hR
theorem ze5.imp : ze5.Imp (AC P) N := fun a h Q hR => eF mixed (fn := Tryz.f160) (fun hC => ze5.L hC (dn Q) (zbb [a]) h hR)
def zc7.I : Bx := ⟨[3], [5, 9], 12, []⟩
theorem zc7.L : LkT P zc7.I Tryz.f161 fun C Q s h => zc7.cps C N (s 0) (s 1) h Q := fun {C} hC Q s h hR => e1 hR
theorem zc7.imp : zc7.Imp (AC P) N := fun a b h Q hR => eF mixed (fn := Tryz.f161) (fun hC => zc7.L hC (dn Q) (zbb [a, b]) h hR)
def zf4.I : Bx := ⟨[], [], 10, []⟩
theorem zf4.L : LkT P zf4.I Tryz.f167 fun C Q s h => zf4.cps C N (s 0) (s 1) h Q := fun {C} hC Q s h hR => e1 hR
theorem zf4.imp : zf4.Imp (AC P) N := fun a b h Q hR => eF mixed (fn := Tryz.f167) (fun hC => zf4.L hC (dn Q) (zbb [a, b]) h hR)
def zd2.I : Bx := ⟨[], [], 29, []⟩
theorem zd2.L : LkT P zd2.I Tryz.f168 fun C Q s h => zd2.cps C N (s 0) (s 1) h Q := fun {C} hC Q s h hR => eT hC (fun s h => B.pv (V.zj (s 1)) fun c => zd (zd2.l2 C N Q (s 0) (s 1) (s 1) c) [(.int .i64 0)] h) hR (fun s h hR => eS hC (fun s h => B.pv (V.zj (s 1)) fun a => B.pv (V.bin .leq a (s 0)) fun b => Q b h) (eT hC (fun s h => zd (zd2.l2 C N Q (s 0) (s 1) (s 7) (s 8)) [(s 9)] h) hR (fun s h hR => eK (eL hC [0, 1, 7, 8] [9] (on4 (zd2.l2 C N Q)) hR (fun Y1 s h hR => e1 hR)))) (fun s h hR => e1 hR))
theorem zd2.imp : zd2.Imp (AC P) N := fun a b h Q hR => eF mixed (fn := Tryz.f168) (fun hC => zd2.L hC (dn Q) (zbb [a, b]) h hR)
def zdl.I : Bx := ⟨[1], [3, 7, 9, 14], 18, []⟩
theorem zdl.L : LkT P zdl.I Tryz.f169 fun C Q s h => zdl.cps C N (s 0) h Q := fun {C} hC Q s h hR => e1 hR
theorem zdl.imp : zdl.Imp (AC P) N := fun a h Q hR => eF mixed (fn := Tryz.f169) (fun hC => zdl.L hC (dn Q) (zbb [a]) h hR)
def zbl.I : Bx := ⟨[], [], 27, []⟩
theorem zbl.L : LkT P zbl.I Tryz.f170 fun C Q s h => zbl.cps C N (s 0) (s 1) h Q := fun {C} hC Q s h hR => eT hC (fun s h => B.pv (V.bin .lss (s 1) (.int .i64 0)) fun a => B.cond a (False) (zhp.k1 C (opsS 1 (.int .u8 0) 0) Q (s 0) (s 1) h)) hR (fun s h hR => eT hC (fun s h => zhp.k1 C (opsS 1 (.int .u8 0) 0) Q (s 0) (s 1) h) hR (fun s h hR => e1 hR))
theorem zbl.imp : zbl.Imp (AC P) N := fun a b h Q hR => eF mixed (fn := Tryz.f170) (fun hC => zbl.L hC (dn Q) (zbb [a, b]) h hR)
def zcu.I : Bx := ⟨[], [], 26, [(6, pz [] 9)]⟩
theorem zcu.L : LkT P zcu.I Tryz.f173 fun C Q s h => zcu.cps C N (s 0) (s 1) h Q := fun {C} hC Q s h hR => eT hC (fun s h => zcu.k3 C N Q (s 0) (s 1) h) hR (fun s h hR => eT hC (fun s h => zd (zkx.l4 2 [.s, .i .i64] Q (s 0) (s 1)) [(.int .i64 0)] h) hR (fun s h hR => eS hC (fun s h => Q (.bool true) h) (eT hC (fun s h => zd (zkx.l4 2 [.s, .i .i64] Q (s 0) (s 1)) [(s 5)] h) hR (fun s h hR => eK (eL hC [0, 1] [5] (on2 (zkx.l4 2 [.s, .i .i64] Q)) hR (fun Y1 s h hR => e1 hR)))) (fun s h hR => e1 hR)))
theorem zcu.imp : zcu.Imp (AC P) N := fun a b h Q hR => eF mixed (fn := Tryz.f173) (fun hC => zcu.L hC (dn Q) (zbb [a, b]) h hR)
def zct.I : Bx := ⟨[], [], 26, [(6, pz [] 9)]⟩
theorem zct.L : LkT P zct.I Tryz.f174 fun C Q s h => zct.cps C N (s 0) (s 1) h Q := fun {C} hC Q s h hR => eT hC (fun s h => zct.k3 C N Q (s 0) (s 1) h) hR (fun s h hR => eT hC (fun s h => zd (zqx.l4  Q (s 0) (s 1)) [(.int .i64 0)] h) hR (fun s h hR => eS hC (fun s h => Q (.bool true) h) (eT hC (fun s h => zd (zqx.l4  Q (s 0) (s 1)) [(s 5)] h) hR (fun s h hR => eK (eL hC [0, 1] [5] (on2 (zqx.l4  Q)) hR (fun Y1 s h hR => e1 hR)))) (fun s h hR => e1 hR)))
theorem zct.imp : zct.Imp (AC P) N := fun a b h Q hR => eF mixed (fn := Tryz.f174) (fun hC => zct.L hC (dn Q) (zbb [a, b]) h hR)
def zca.I : Bx := ⟨[], [], 56, []⟩
theorem zca.L : LkT P zca.I Tryz.f177 fun C Q s h => zca.cps C N (s 0) h Q := fun {C} hC Q s h hR => eT hC (fun s h => zca.k3 C N Q (s 0) h) hR (fun s h hR => eT hC (fun s h => zd (zca.l2 C N Q (s 0)) [(.int .i64 0)] h) hR (fun s h hR => eS hC (fun s h => Q (.bool true) h) (eT hC (fun s h => zd (zca.l2 C N Q (s 0)) [(s 3)] h) hR (fun s h hR => eK (eL hC [0] [3] (on1 (zca.l2 C N Q)) hR (fun Y1 s h hR => e1 hR)))) (fun s h hR => e1 hR)))
theorem zca.imp : zca.Imp (AC P) N := fun a h Q hR => eF mixed (fn := Tryz.f177) (fun hC => zca.L hC (dn Q) (zbb [a]) h hR)
def zdn.I : Bx := ⟨[4], [], 9, []⟩
theorem zdn.L : LkT P zdn.I Tryz.f185 fun C Q s h => zdn.cps C N (s 0) (s 1) h Q := fun {C} hC Q s h hR => e1 hR
theorem zdn.imp : zdn.Imp (AC P) N := fun a b h Q hR => eF mixed (fn := Tryz.f185) (fun hC => zdn.L hC (dn Q) (zbb [a, b]) h hR)
def zf5.I : Bx := ⟨[], [], 38, []⟩
theorem zf5.L : LkT P zf5.I Tryz.f198 fun C Q s h => zf5.cps C N (s 0) h Q := fun {C} hC Q s h hR => e1 hR
theorem zf5.imp : zf5.Imp (AC P) N := fun a h Q hR => eF mixed (fn := Tryz.f198) (fun hC => zf5.L hC (dn Q) (zbb [a]) h hR)
def zfe.I : Bx := ⟨[], [], 43, []⟩
theorem zfe.L : LkT P zfe.I Tryz.f199 fun C Q s h => zfe.cps C N (s 0) h Q := fun {C} hC Q s h hR => e1 hR
theorem zfe.imp : zfe.Imp (AC P) N := fun a h Q hR => eF mixed (fn := Tryz.f199) (fun hC => zfe.L hC (dn Q) (zbb [a]) h hR)
def zc6.I : Bx := ⟨[], [], 14, []⟩
theorem zc6.L : LkT P zc6.I Tryz.f201 fun C Q s h => zc6.cps C N (s 0) (s 1) h Q := fun {C} hC Q s h hR => e1 hR
theorem zc6.imp : zc6.Imp (AC P) N := fun a b h Q hR => eF mixed (fn := Tryz.f201) (fun hC => zc6.L hC (dn Q) (zbb [a, b]) h hR)
def zc5.I : Bx := ⟨[], [], 14, []⟩
theorem zc5.L : LkT P zc5.I Tryz.f203 fun C Q s h => zc5.cps C N (s 0) (s 1) h Q := fun {C} hC Q s h hR => e1 hR
theorem zc5.imp : zc5.Imp (AC P) N := fun a b h Q hR => eF mixed (fn := Tryz.f203) (fun hC => zc5.L hC (dn Q) (zbb [a, b]) h hR)
def zr.I : Bx := ⟨[], [], 9, []⟩
theorem zr.L : LkT P zr.I Tryz.f205 fun C Q s h => zr.cps C N (s 0) (s 1) h Q := fun {C} hC Q s h hR => e1 hR
theorem zr.imp : zr.Imp (AC P) N := fun a b h Q hR => eF mixed (fn := Tryz.f205) (fun hC => zr.L hC (dn Q) (zbb [a, b]) h hR)
def zba.I : Bx := ⟨[], [], 19, []⟩
theorem zba.L : LkT P zba.I Tryz.f216 fun C Q s h => zba.cps C N (s 0) (s 1) h Q := fun {C} hC Q s h hR => eT hC (fun s h => B.pv (V.zj (s 0)) fun a => zd (zfb.l2 C (opsS 16 (.str []) 0) Q (s 0) (s 1) a) [(.int .i64 0)] h) hR (fun s h hR => eS hC (fun s h => Q (.int .i64 (-1)) h) (eT hC (fun s h => zd (zfb.l2 C (opsS 16 (.str []) 0) Q (s 0) (s 1) (s 7)) [(s 8)] h) hR (fun s h hR => eK (eL hC [0, 1, 7] [8] (on3 (zfb.l2 C (opsS 16 (.str []) 0) Q)) hR (fun Y1 s h hR => e1 hR)))) (fun s h hR => e1 hR))
theorem zba.imp : zba.Imp (AC P) N := fun a b h Q hR => eF mixed (fn := Tryz.f216) (fun hC => zba.L hC (dn Q) (zbb [a, b]) h hR)
theorem zfm.L0 : F0 P Tryz.f116 zfm.I := fun hC Q s h hR => eT hC (fun s h => zg7 (s 0) h Q) hR (fun s h hR => eU hC [0] [3] (g1 fun v => z0 v (z1 Q v)) (fun s h => z1 Q (s 0) h) hR (fun s h hR => eT hC (fun s h => z2 Q (s 0) (s 5) h) hR (fun s h hR => eU hC [0, 5] [6] (g2 fun v w => z0 v (z3 Q v w)) (fun s h => z3 Q (s 0) (s 5) h) hR (fun s h hR => eU hC [0, 5] [9] (g2 fun v w => z0 v (z4 Q v w)) (fun s h => z4 Q (s 0) (s 5) h) hR (fun s h hR => eU hC [0, 5] [11] (g2 fun v w => z0 v (z5 Q v w)) (fun s h => z5 Q (s 0) (s 5) h) hR (fun s h hR => eU hC [0, 5] [14] (g2 fun v w => z0 v fun h => Q (.bool true) h) (fun s h => Q (.bool true) h) hR (fun s h hR => e1 hR)))))))
theorem zfm.imp0 : zfm.Imp0 (AC P) N := fun a h Q hR => eF mixed (fn := Tryz.f116) (fun hC => zfm.L0 hC (dn Q) (zbb [a]) h hR)
theorem zga.L0 : F0 P Tryz.f117 zga.I := fun hC Q s h hR => eT hC (fun s h => zg7 (s 0) h Q) hR (fun s h hR => eU hC [0] [3] (g1 fun v => z0 v (z1 Q v)) (fun s h => z1 Q (s 0) h) hR (fun s h hR => eT hC (fun s h => z2 Q (s 0) (s 5) h) hR (fun s h hR => eU hC [0, 5] [6] (g2 fun v w => z0 v (z3 Q v w)) (fun s h => z3 Q (s 0) (s 5) h) hR (fun s h hR => eU hC [0, 5] [9] (g2 fun v w => z0 v (z4 Q v w)) (fun s h => z4 Q (s 0) (s 5) h) hR (fun s h hR => eU hC [0, 5] [11] (g2 fun v w => z0 v (z5 Q v w)) (fun s h => z5 Q (s 0) (s 5) h) hR (fun s h hR => eU hC [0, 5] [14] (g2 fun v w => z0 v fun h => Q (.bool true) h) (fun s h => Q (.bool true) h) hR (fun s h hR => e1 hR)))))))
theorem zga.imp0 : zga.Imp0 (AC P) N := fun a h Q hR => eF mixed (fn := Tryz.f117) (fun hC => zga.L0 hC (dn Q) (zbb [a]) h hR)
theorem zfu.L0 : F0 P Tryz.f118 zfu.I := fun hC Q s h hR => eT hC (fun s h => zg7 (s 0) h Q) hR (fun s h hR => eU hC [0] [3] (g1 fun v => z0 v (z1 Q v)) (fun s h => z1 Q (s 0) h) hR (fun s h hR => eT hC (fun s h => z2 Q (s 0) (s 5) h) hR (fun s h hR => eU hC [0, 5] [6] (g2 fun v w => z0 v (z3 Q v w)) (fun s h => z3 Q (s 0) (s 5) h) hR (fun s h hR => eU hC [0, 5] [9] (g2 fun v w => z0 v (z4 Q v w)) (fun s h => z4 Q (s 0) (s 5) h) hR (fun s h hR => eU hC [0, 5] [11] (g2 fun v w => z0 v (z5 Q v w)) (fun s h => z5 Q (s 0) (s 5) h) hR (fun s h hR => eU hC [0, 5] [14] (g2 fun v w => z0 v fun h => Q (.bool true) h) (fun s h => Q (.bool true) h) hR (fun s h hR => e1 hR)))))))
theorem zfu.imp0 : zfu.Imp0 (AC P) N := fun a h Q hR => eF mixed (fn := Tryz.f118) (fun hC => zfu.L0 hC (dn Q) (zbb [a]) h hR)
theorem zfp.L0 : F0 P Tryz.f119 zfp.I := fun hC Q s h hR => eT hC (fun s h => zg7 (s 0) h Q) hR (fun s h hR => eU hC [0] [3] (g1 fun v => z0 v (z1 Q v)) (fun s h => z1 Q (s 0) h) hR (fun s h hR => eT hC (fun s h => z2 Q (s 0) (s 5) h) hR (fun s h hR => eU hC [0, 5] [6] (g2 fun v w => z0 v (z3 Q v w)) (fun s h => z3 Q (s 0) (s 5) h) hR (fun s h hR => eU hC [0, 5] [9] (g2 fun v w => z0 v (z4 Q v w)) (fun s h => z4 Q (s 0) (s 5) h) hR (fun s h hR => eU hC [0, 5] [11] (g2 fun v w => z0 v (z5 Q v w)) (fun s h => z5 Q (s 0) (s 5) h) hR (fun s h hR => eU hC [0, 5] [14] (g2 fun v w => z0 v fun h => Q (.bool true) h) (fun s h => Q (.bool true) h) hR (fun s h hR => e1 hR)))))))
theorem zfp.imp0 : zfp.Imp0 (AC P) N := fun a h Q hR => eF mixed (fn := Tryz.f119) (fun hC => zfp.L0 hC (dn Q) (zbb [a]) h hR)
theorem zez.L0 : F0 P Tryz.f121 zez.I := fun hC Q s h hR => eT hC (fun s h => zg7 (s 0) h Q) hR (fun s h hR => eU hC [0] [3] (g1 fun v => z0 v (z1 Q v)) (fun s h => z1 Q (s 0) h) hR (fun s h hR => eT hC (fun s h => z2 Q (s 0) (s 5) h) hR (fun s h hR => eU hC [0, 5] [6] (g2 fun v w => z0 v (z3 Q v w)) (fun s h => z3 Q (s 0) (s 5) h) hR (fun s h hR => eU hC [0, 5] [9] (g2 fun v w => z0 v (z4 Q v w)) (fun s h => z4 Q (s 0) (s 5) h) hR (fun s h hR => eU hC [0, 5] [11] (g2 fun v w => z0 v (z5 Q v w)) (fun s h => z5 Q (s 0) (s 5) h) hR (fun s h hR => eU hC [0, 5] [14] (g2 fun v w => z0 v fun h => Q (.bool true) h) (fun s h => Q (.bool true) h) hR (fun s h hR => e1 hR)))))))
theorem zez.imp0 : zez.Imp0 (AC P) N := fun a h Q hR => eF mixed (fn := Tryz.f121) (fun hC => zez.L0 hC (dn Q) (zbb [a]) h hR)
theorem zfn.L0 : F0 P Tryz.f123 zfn.I := fun hC Q s h hR => eT hC (fun s h => zg7 (s 0) h Q) hR (fun s h hR => eU hC [0] [3] (g1 fun v => z0 v (z1 Q v)) (fun s h => z1 Q (s 0) h) hR (fun s h hR => eT hC (fun s h => z2 Q (s 0) (s 5) h) hR (fun s h hR => eU hC [0, 5] [6] (g2 fun v w => z0 v (z3 Q v w)) (fun s h => z3 Q (s 0) (s 5) h) hR (fun s h hR => eU hC [0, 5] [9] (g2 fun v w => z0 v (z4 Q v w)) (fun s h => z4 Q (s 0) (s 5) h) hR (fun s h hR => eU hC [0, 5] [11] (g2 fun v w => z0 v (z5 Q v w)) (fun s h => z5 Q (s 0) (s 5) h) hR (fun s h hR => eU hC [0, 5] [14] (g2 fun v w => z0 v fun h => Q (.bool true) h) (fun s h => Q (.bool true) h) hR (fun s h hR => e1 hR)))))))
theorem zfn.imp0 : zfn.Imp0 (AC P) N := fun a h Q hR => eF mixed (fn := Tryz.f123) (fun hC => zfn.L0 hC (dn Q) (zbb [a]) h hR)
theorem zfs.L0 : F0 P Tryz.f125 zfs.I := fun hC Q s h hR => eT hC (fun s h => zg7 (s 0) h Q) hR (fun s h hR => eU hC [0] [3] (g1 fun v => z0 v (z1 Q v)) (fun s h => z1 Q (s 0) h) hR (fun s h hR => eT hC (fun s h => z2 Q (s 0) (s 5) h) hR (fun s h hR => eU hC [0, 5] [6] (g2 fun v w => z0 v (z3 Q v w)) (fun s h => z3 Q (s 0) (s 5) h) hR (fun s h hR => eU hC [0, 5] [9] (g2 fun v w => z0 v (z4 Q v w)) (fun s h => z4 Q (s 0) (s 5) h) hR (fun s h hR => eU hC [0, 5] [11] (g2 fun v w => z0 v (z5 Q v w)) (fun s h => z5 Q (s 0) (s 5) h) hR (fun s h hR => eU hC [0, 5] [14] (g2 fun v w => z0 v fun h => Q (.bool true) h) (fun s h => Q (.bool true) h) hR (fun s h hR => e1 hR)))))))
theorem zfs.imp0 : zfs.Imp0 (AC P) N := fun a h Q hR => eF mixed (fn := Tryz.f125) (fun hC => zfs.L0 hC (dn Q) (zbb [a]) h hR)
theorem zfw.L0 : F0 P Tryz.f126 zfw.I := fun hC Q s h hR => eT hC (fun s h => zg7 (s 0) h Q) hR (fun s h hR => eU hC [0] [3] (g1 fun v => z0 v (z1 Q v)) (fun s h => z1 Q (s 0) h) hR (fun s h hR => eT hC (fun s h => z2 Q (s 0) (s 5) h) hR (fun s h hR => eU hC [0, 5] [6] (g2 fun v w => z0 v (z3 Q v w)) (fun s h => z3 Q (s 0) (s 5) h) hR (fun s h hR => eU hC [0, 5] [9] (g2 fun v w => z0 v (z4 Q v w)) (fun s h => z4 Q (s 0) (s 5) h) hR (fun s h hR => eU hC [0, 5] [11] (g2 fun v w => z0 v (z5 Q v w)) (fun s h => z5 Q (s 0) (s 5) h) hR (fun s h hR => eU hC [0, 5] [14] (g2 fun v w => z0 v fun h => Q (.bool true) h) (fun s h => Q (.bool true) h) hR (fun s h hR => e1 hR)))))))
theorem zfw.imp0 : zfw.Imp0 (AC P) N := fun a h Q hR => eF mixed (fn := Tryz.f126) (fun hC => zfw.L0 hC (dn Q) (zbb [a]) h hR)
theorem zfv.L0 : F0 P Tryz.f127 zfv.I := fun hC Q s h hR => eT hC (fun s h => zg7 (s 0) h Q) hR (fun s h hR => eU hC [0] [3] (g1 fun v => z0 v (z1 Q v)) (fun s h => z1 Q (s 0) h) hR (fun s h hR => eT hC (fun s h => z2 Q (s 0) (s 5) h) hR (fun s h hR => eU hC [0, 5] [6] (g2 fun v w => z0 v (z3 Q v w)) (fun s h => z3 Q (s 0) (s 5) h) hR (fun s h hR => eU hC [0, 5] [9] (g2 fun v w => z0 v (z4 Q v w)) (fun s h => z4 Q (s 0) (s 5) h) hR (fun s h hR => eU hC [0, 5] [11] (g2 fun v w => z0 v (z5 Q v w)) (fun s h => z5 Q (s 0) (s 5) h) hR (fun s h hR => eU hC [0, 5] [14] (g2 fun v w => z0 v fun h => Q (.bool true) h) (fun s h => Q (.bool true) h) hR (fun s h hR => e1 hR)))))))
theorem zfv.imp0 : zfv.Imp0 (AC P) N := fun a h Q hR => eF mixed (fn := Tryz.f127) (fun hC => zfv.L0 hC (dn Q) (zbb [a]) h hR)
theorem zgb.L0 : F0 P Tryz.f128 zgb.I := fun hC Q s h hR => eT hC (fun s h => zg7 (s 0) h Q) hR (fun s h hR => eU hC [0] [3] (g1 fun v => z0 v (z1 Q v)) (fun s h => z1 Q (s 0) h) hR (fun s h hR => eT hC (fun s h => z2 Q (s 0) (s 5) h) hR (fun s h hR => eU hC [0, 5] [6] (g2 fun v w => z0 v (z3 Q v w)) (fun s h => z3 Q (s 0) (s 5) h) hR (fun s h hR => eU hC [0, 5] [9] (g2 fun v w => z0 v (z4 Q v w)) (fun s h => z4 Q (s 0) (s 5) h) hR (fun s h hR => eU hC [0, 5] [11] (g2 fun v w => z0 v (z5 Q v w)) (fun s h => z5 Q (s 0) (s 5) h) hR (fun s h hR => eU hC [0, 5] [14] (g2 fun v w => z0 v fun h => Q (.bool true) h) (fun s h => Q (.bool true) h) hR (fun s h hR => e1 hR)))))))
theorem zgb.imp0 : zgb.Imp0 (AC P) N := fun a h Q hR => eF mixed (fn := Tryz.f128) (fun hC => zgb.L0 hC (dn Q) (zbb [a]) h hR)
theorem zfa.L0 : F0 P Tryz.f130 zfa.I := fun hC Q s h hR => eT hC (fun s h => zg7 (s 0) h Q) hR (fun s h hR => eU hC [0] [3] (g1 fun v => z0 v (z1 Q v)) (fun s h => z1 Q (s 0) h) hR (fun s h hR => eT hC (fun s h => z2 Q (s 0) (s 5) h) hR (fun s h hR => eU hC [0, 5] [6] (g2 fun v w => z0 v (z3 Q v w)) (fun s h => z3 Q (s 0) (s 5) h) hR (fun s h hR => eU hC [0, 5] [9] (g2 fun v w => z0 v (z4 Q v w)) (fun s h => z4 Q (s 0) (s 5) h) hR (fun s h hR => eU hC [0, 5] [11] (g2 fun v w => z0 v (z5 Q v w)) (fun s h => z5 Q (s 0) (s 5) h) hR (fun s h hR => eU hC [0, 5] [14] (g2 fun v w => z0 v fun h => Q (.bool true) h) (fun s h => Q (.bool true) h) hR (fun s h hR => e1 hR)))))))
theorem zfa.imp0 : zfa.Imp0 (AC P) N := fun a h Q hR => eF mixed (fn := Tryz.f130) (fun hC => zfa.L0 hC (dn Q) (zbb [a]) h hR)
theorem zfo.L0 : F0 P Tryz.f132 zfo.I := fun hC Q s h hR => eT hC (fun s h => zg7 (s 0) h Q) hR (fun s h hR => eU hC [0] [3] (g1 fun v => z0 v (z1 Q v)) (fun s h => z1 Q (s 0) h) hR (fun s h hR => eT hC (fun s h => z2 Q (s 0) (s 5) h) hR (fun s h hR => eU hC [0, 5] [6] (g2 fun v w => z0 v (z3 Q v w)) (fun s h => z3 Q (s 0) (s 5) h) hR (fun s h hR => eU hC [0, 5] [9] (g2 fun v w => z0 v (z4 Q v w)) (fun s h => z4 Q (s 0) (s 5) h) hR (fun s h hR => eU hC [0, 5] [11] (g2 fun v w => z0 v (z5 Q v w)) (fun s h => z5 Q (s 0) (s 5) h) hR (fun s h hR => eU hC [0, 5] [14] (g2 fun v w => z0 v fun h => Q (.bool true) h) (fun s h => Q (.bool true) h) hR (fun s h hR => e1 hR)))))))
theorem zfo.imp0 : zfo.Imp0 (AC P) N := fun a h Q hR => eF mixed (fn := Tryz.f132) (fun hC => zfo.L0 hC (dn Q) (zbb [a]) h hR)
theorem zfx.L0 : F0 P Tryz.f133 zfx.I := fun hC Q s h hR => eT hC (fun s h => zg7 (s 0) h Q) hR (fun s h hR => eU hC [0] [3] (g1 fun v => z0 v (z1 Q v)) (fun s h => z1 Q (s 0) h) hR (fun s h hR => eT hC (fun s h => z2 Q (s 0) (s 5) h) hR (fun s h hR => eU hC [0, 5] [6] (g2 fun v w => z0 v (z3 Q v w)) (fun s h => z3 Q (s 0) (s 5) h) hR (fun s h hR => eU hC [0, 5] [9] (g2 fun v w => z0 v (z4 Q v w)) (fun s h => z4 Q (s 0) (s 5) h) hR (fun s h hR => eU hC [0, 5] [11] (g2 fun v w => z0 v (z5 Q v w)) (fun s h => z5 Q (s 0) (s 5) h) hR (fun s h hR => eU hC [0, 5] [14] (g2 fun v w => z0 v fun h => Q (.bool true) h) (fun s h => Q (.bool true) h) hR (fun s h hR => e1 hR)))))))
theorem zfx.imp0 : zfx.Imp0 (AC P) N := fun a h Q hR => eF mixed (fn := Tryz.f133) (fun hC => zfx.L0 hC (dn Q) (zbb [a]) h hR)
theorem ze1.L0 : F0 P Tryz.f134 ze1.I := fun hC Q s h hR => eT hC (fun s h => zg7 (s 0) h Q) hR (fun s h hR => eU hC [0] [3] (g1 fun v => z0 v (z1 Q v)) (fun s h => z1 Q (s 0) h) hR (fun s h hR => eT hC (fun s h => z2 Q (s 0) (s 5) h) hR (fun s h hR => eU hC [0, 5] [6] (g2 fun v w => z0 v (z3 Q v w)) (fun s h => z3 Q (s 0) (s 5) h) hR (fun s h hR => eU hC [0, 5] [9] (g2 fun v w => z0 v (z4 Q v w)) (fun s h => z4 Q (s 0) (s 5) h) hR (fun s h hR => eU hC [0, 5] [11] (g2 fun v w => z0 v (z5 Q v w)) (fun s h => z5 Q (s 0) (s 5) h) hR (fun s h hR => eU hC [0, 5] [14] (g2 fun v w => z0 v fun h => Q (.bool true) h) (fun s h => Q (.bool true) h) hR (fun s h hR => e1 hR)))))))
theorem ze1.imp0 : ze1.Imp0 (AC P) N := fun a h Q hR => eF mixed (fn := Tryz.f134) (fun hC => ze1.L0 hC (dn Q) (zbb [a]) h hR)
theorem zft.L0 : F0 P Tryz.f135 zft.I := fun hC Q s h hR => eT hC (fun s h => zg7 (s 0) h Q) hR (fun s h hR => eU hC [0] [3] (g1 fun v => z0 v (z1 Q v)) (fun s h => z1 Q (s 0) h) hR (fun s h hR => eT hC (fun s h => z2 Q (s 0) (s 5) h) hR (fun s h hR => eU hC [0, 5] [6] (g2 fun v w => z0 v (z3 Q v w)) (fun s h => z3 Q (s 0) (s 5) h) hR (fun s h hR => eU hC [0, 5] [9] (g2 fun v w => z0 v (z4 Q v w)) (fun s h => z4 Q (s 0) (s 5) h) hR (fun s h hR => eU hC [0, 5] [11] (g2 fun v w => z0 v (z5 Q v w)) (fun s h => z5 Q (s 0) (s 5) h) hR (fun s h hR => eU hC [0, 5] [14] (g2 fun v w => z0 v fun h => Q (.bool true) h) (fun s h => Q (.bool true) h) hR (fun s h hR => e1 hR)))))))
theorem zft.imp0 : zft.Imp0 (AC P) N := fun a h Q hR => eF mixed (fn := Tryz.f135) (fun hC => zft.L0 hC (dn Q) (zbb [a]) h hR)
theorem ze0.L0 : F0 P Tryz.f136 ze0.I := fun hC Q s h hR => eT hC (fun s h => zg7 (s 0) h Q) hR (fun s h hR => eU hC [0] [3] (g1 fun v => z0 v (z1 Q v)) (fun s h => z1 Q (s 0) h) hR (fun s h hR => eT hC (fun s h => z2 Q (s 0) (s 5) h) hR (fun s h hR => eU hC [0, 5] [6] (g2 fun v w => z0 v (z3 Q v w)) (fun s h => z3 Q (s 0) (s 5) h) hR (fun s h hR => eU hC [0, 5] [9] (g2 fun v w => z0 v (z4 Q v w)) (fun s h => z4 Q (s 0) (s 5) h) hR (fun s h hR => eU hC [0, 5] [11] (g2 fun v w => z0 v (z5 Q v w)) (fun s h => z5 Q (s 0) (s 5) h) hR (fun s h hR => eU hC [0, 5] [14] (g2 fun v w => z0 v fun h => Q (.bool true) h) (fun s h => Q (.bool true) h) hR (fun s h hR => e1 hR)))))))
theorem ze0.imp0 : ze0.Imp0 (AC P) N := fun a h Q hR => eF mixed (fn := Tryz.f136) (fun hC => ze0.L0 hC (dn Q) (zbb [a]) h hR)
theorem zfr.L0 : F0 P Tryz.f137 zfr.I := fun hC Q s h hR => eT hC (fun s h => zg7 (s 0) h Q) hR (fun s h hR => eU hC [0] [3] (g1 fun v => z0 v (z1 Q v)) (fun s h => z1 Q (s 0) h) hR (fun s h hR => eT hC (fun s h => z2 Q (s 0) (s 5) h) hR (fun s h hR => eU hC [0, 5] [6] (g2 fun v w => z0 v (z3 Q v w)) (fun s h => z3 Q (s 0) (s 5) h) hR (fun s h hR => eU hC [0, 5] [9] (g2 fun v w => z0 v (z4 Q v w)) (fun s h => z4 Q (s 0) (s 5) h) hR (fun s h hR => eU hC [0, 5] [11] (g2 fun v w => z0 v (z5 Q v w)) (fun s h => z5 Q (s 0) (s 5) h) hR (fun s h hR => eU hC [0, 5] [14] (g2 fun v w => z0 v fun h => Q (.bool true) h) (fun s h => Q (.bool true) h) hR (fun s h hR => e1 hR)))))))
theorem zfr.imp0 : zfr.Imp0 (AC P) N := fun a h Q hR => eF mixed (fn := Tryz.f137) (fun hC => zfr.L0 hC (dn Q) (zbb [a]) h hR)
theorem zfq.L0 : F0 P Tryz.f138 zfq.I := fun hC Q s h hR => eT hC (fun s h => zg7 (s 0) h Q) hR (fun s h hR => eU hC [0] [3] (g1 fun v => z0 v (z1 Q v)) (fun s h => z1 Q (s 0) h) hR (fun s h hR => eT hC (fun s h => z2 Q (s 0) (s 5) h) hR (fun s h hR => eU hC [0, 5] [6] (g2 fun v w => z0 v (z3 Q v w)) (fun s h => z3 Q (s 0) (s 5) h) hR (fun s h hR => eU hC [0, 5] [9] (g2 fun v w => z0 v (z4 Q v w)) (fun s h => z4 Q (s 0) (s 5) h) hR (fun s h hR => eU hC [0, 5] [11] (g2 fun v w => z0 v (z5 Q v w)) (fun s h => z5 Q (s 0) (s 5) h) hR (fun s h hR => eU hC [0, 5] [14] (g2 fun v w => z0 v fun h => Q (.bool true) h) (fun s h => Q (.bool true) h) hR (fun s h hR => e1 hR)))))))
theorem zfq.imp0 : zfq.Imp0 (AC P) N := fun a h Q hR => eF mixed (fn := Tryz.f138) (fun hC => zfq.L0 hC (dn Q) (zbb [a]) h hR)
end Go.Ab.S16z
namespace Go.Ab
variable {C : CSem} {N : zN}
def far : Nat := 140737488351232
def Bs (h : za) (x : AVal) (b : List UInt8) : Prop := (∃ R, SlX h 1 x (b.map bc) R) ∧ b.length <= far
section
variable {h h' : za} {x : AVal} {b : List UInt8}
theorem Bs.mono (hb : Bs h x b) (hle : h.le h') : Bs h' x b := ⟨hb.1.imp fun _ r => r.mono hle, hb.2⟩
theorem Bs.zj (hb : Bs h x b) : V.zj x = some (.int .i64 b.length) := by
 obtain ⟨⟨R, r⟩, _⟩ := hb
 simpa using r.zj
theorem Bs.zm (hb : Bs h x b) : x.zm = true := hb.1.elim fun _ r => r.zm
end
theorem SlX.cutR {h : za} {es : Nat} {x : AVal} {L R S : List (List AVal)} (hs : SlX h es x L (R ++ S)) : SlX h es x L R := by
 refine ⟨fun p hp => hs.len p (by rcases List.mem_append.1 hp with h | h; exact List.mem_append_left _ h; exact List.mem_append_right _ (List.mem_append_left _ h)), ?_⟩
 rcases hs.at_ with ⟨e, e2, e'⟩ | ⟨id, g, off, cp, b, hi, h1, h1', h2, h3, h4, hh, h5⟩
 ·exact .inl ⟨e, (List.append_eq_nil_iff.1 e2).1, e'⟩
 ·have hl : ∀ p ∈ L ++ R, p.length = es := fun p hp => hs.len p (by rcases List.mem_append.1 hp with h | h; exact List.mem_append_left _ h; exact List.mem_append_right _ (List.mem_append_left _ h))
  have hfl := zk6 hl
  rw [List.length_append] at h1' h4 h5 hfl
  have hm : (L.length + R.length) * es <= (L.length + (R.length + S.length)) * es := Nat.mul_le_mul_right _ (by omega)
  refine .inr ⟨id, g, off, cp, b, hi, h1, by omega, h2, h3, by omega, hh, ?_⟩
  have : ((b.cells.drop off).take ((L.length + (R.length + S.length)) * es)).take ((L.length + R.length) * es) = (L ++ R).flatten := by
   rw [h5, <- List.append_assoc, List.flatten_append (L₁ := L ++ R), List.take_append_of_le_length (by omega), List.take_of_length_le (by omega)]
  rw [<- this, List.take_take, Nat.min_eq_left hm]
abbrev zto (h : za) (l : List Ob) : Prop := ∀ o ∈ l, o.at h
theorem zto.mono {h h' : za} {l : List Ob} (ha : zto h l) (hle : h.le h') : zto h' l := fun o hm => (ha o hm).keep fun _ _ _ e => hle _ _ e
structure DK (T Ad : Type) where
 n : Nat
 bytes : Nat
 z : List AVal
 pos : 0 < n
 small : bytes <= 1000
 zlen : z.length = n
 cells : T -> Ad -> List AVal
 len : ∀ t a, (cells t a).length = n
 at_ : za -> T -> Ad -> Prop
 mono : ∀ {h h' : za} {t : T} {a : Ad}, h.le h' -> at_ h t a -> at_ h' t a
 ok : T -> Prop
 at_ok : ∀ {h : za} {t : T} {a : Ad}, at_ h t a -> ok t
 obs : Bool -> T -> Ad -> List Ob
 zv0 : ∀ {b : Bool} {h : za} {t : T} {a : Ad}, ok t -> zto h (obs b t a) -> at_ h t a
section
variable {T Ad : Type} (K : DK T Ad)
abbrev DK.cs (p : T × Ad) : List AVal := K.cells p.1 p.2
def DK.os (b : Bool) (P : List (T × Ad)) : List Ob := P.flatMap fun p => K.obs b p.1 p.2
def Dl (h : za) (x : AVal) (L : List T) : Prop := ∃ (P : List (T × Ad)) (R : List (List AVal)), P.map (·.1) = L ∧ SlX h K.n x (P.map K.cs) R ∧ ∀ p ∈ P, K.at_ h p.1 p.2
structure DEl (h : za) (x : AVal) (i : Nat) (t : T) (a : Ad) : Prop where
 idx : V.idxS K.n x (.int .i64 (i : Int)) = some (elp K.n x i 0)
 ldn : A.ldnv h (elp K.n x i 0) K.n = some (.agg (K.cells t a))
 fld : ∀ f o, V.fieldAddr o (elp K.n x i f) = some (elp K.n x i (f + o))
 ld : ∀ f, f < K.n -> A.ldv h (elp K.n x i f) = (K.cells t a)[f]?
 at_ : K.at_ h t a
variable {K} {h h' h0 : za} {x : AVal} {L M : List T}
theorem slX_el {h : za} {x : AVal} {P : List (T × Ad)} {R : List (List AVal)} (s : SlX h K.n x (P.map K.cs) R) (ha : ∀ p ∈ P, K.at_ h p.1 p.2) {i : Nat} {p : T × Ad} (hi : P[i]? = some p) : DEl K h x i p.1 p.2 := by
 have hc : (P.map K.cs)[i]? = some (K.cells p.1 p.2) := by rw [List.getElem?_map, hi]; rfl
 have hl : i < (P.map K.cs).length := (List.getElem?_eq_some_iff.1 hc).1
 exact ⟨s.idxN hl, s.elem hc, fun f o => s.zvf hl f o, fun f hf => s.ldv hc hf, ha p (List.mem_of_getElem? hi)⟩
theorem Dl.get (hd : Dl K h x L) {i : Nat} {t : T} (hi : L[i]? = some t) : ∃ a, DEl K h x i t a := by
 obtain ⟨P, R, rfl, s, ha⟩ := hd
 rw [List.getElem?_map] at hi
 obtain ⟨p, hp, rfl⟩ := Option.map_eq_some_iff.1 hi
 exact ⟨p.2, slX_el s ha hp⟩
theorem Dl.mono (hd : Dl K h x L) (hle : h.le h') : Dl K h' x L := by
 obtain ⟨P, R, e, s, ha⟩ := hd
 exact ⟨P, R, e, s.mono hle, fun p hp => K.mono hle (ha p hp)⟩
theorem Dl.zj (hd : Dl K h x L) : V.zj x = some (.int .i64 L.length) := by
 obtain ⟨P, R, rfl, s, ha⟩ := hd
 simpa using s.zj
theorem Dl.zm (hd : Dl K h x L) : x.zm = true := by
 obtain ⟨P, R, rfl, s, ha⟩ := hd
 exact s.zm
theorem Dl.nils (K : DK T Ad) (h : za) : Dl K h .nils [] := ⟨[], [], rfl, SlX.nils h K.n, fun _ h => by cases h⟩
theorem Dl.ok (hd : Dl K h x L) : ∀ t ∈ L, K.ok t := by
 obtain ⟨P, R, rfl, s, ha⟩ := hd
 intro t ht
 obtain ⟨p, hp, rfl⟩ := List.mem_map.1 ht
 exact K.at_ok (ha p hp)
theorem dl_of {P : List (T × Ad)} {R : List (List AVal)} {b : Bool} {l : List Ob} (hok : ∀ p ∈ P, K.ok p.1) (hl : zto h l) (h1 : .sl K.n x (P.map K.cs) R ∈ l) (h2 : ∀ o ∈ K.os b P, o ∈ l) : Dl K h x (P.map (·.1)) :=
 ⟨P, R, rfl, hl _ h1, fun p hp => K.zv0 (hok p hp) fun o ho => hl o (h2 o (List.mem_flatMap.2 ⟨p, hp, ho⟩))⟩
theorem DK.zlq (b : Bool) (P P' : List (T × Ad)) : K.os b (P ++ P') = K.os b P ++ K.os b P' := List.flatMap_append
theorem DK.zwh (b : Bool) (p : T × Ad) : K.os b [p] = K.obs b p.1 p.2 := by simp [DK.os]
abbrev Df (K : DK T Ad) (h0 h : za) (x : AVal) (P : List (T × Ad)) : Prop := Owns h0 h (.sl K.n x (P.map K.cs) [] :: K.os false P)
theorem Df.dl {P : List (T × Ad)} (hd : Df K h0 h x P) (hok : ∀ p ∈ P, K.ok p.1) : Dl K h x (P.map (·.1)) := dl_of (b := false) hok hd.is (List.mem_cons_self ..) fun o ho => List.mem_cons_of_mem _ ho
def SameE (K : DK T Ad) [DecidableEq T] (C : CSem) (f : Nat) : Prop := ∀ (t u : T) (a b : Ad) (h : za) (Q : zQ), K.at_ h t a -> K.at_ h u b -> Q (.bool (decide (t = u))) h -> C f [.agg (K.cells t a), .agg (K.cells u b)] h Q
def OneE (K : DK T Ad) (b : Bool) (C : CSem) (f : Nat) : Prop := ∀ (t : T) (a : Ad) (h : za) (Q : zQ), K.at_ h t a -> (∀ a' h', Owns h h' (K.obs b t a') -> Q (.agg (K.cells t a')) h') -> C f [.agg (K.cells t a)] h Q
def KeptE (K : DK T Ad) [DecidableEq T] (C : CSem) (f : Nat) : Prop := ∀ (t u : T) (a b : Ad) (h : za) (Q : zQ), K.ok t -> zto h (K.obs true t a) -> K.at_ h u b -> Q (.bool (decide (t = u))) h -> C f [.agg (K.cells t a), .agg (K.cells u b)] h Q
def MarkE (K : DK T Ad) (mk : Int -> Int -> T) (C : CSem) (f : Nat) : Prop := ∀ (k i : Int) (h : za) (Q : zQ), (∀ a' h', Owns h h' (K.obs false (mk k i) a') -> Q (.agg (K.cells (mk k i) a')) h') -> C f [.int .i64 k, .int .i64 i] h Q
theorem zrn (K : DK T Ad) (t : T) (a : Ad) : zc0 [(0, some K.n, .agg (K.cells t a))] (repL 1 K.z) = some (K.cells t a) := by
 have hrep : repL 1 K.z = K.z := by unfold repL; split <;> simp_all
 have h1 := K.len t a
 rw [hrep]
 simp [h1, K.zlen]
@[simp] def sameD.k1 (C : CSem) (n f : Nat) (Q : zQ) (Y1 : zL) (v0 v1 v5 : AVal) (h : za) : Prop :=
 B.pv (V.zj v0) fun v13 =>
  B.pv (V.bin .lss v5 v13) fun v14 =>
  B.cond v14
  (B.pv (V.idxS n v0 v5) fun v19 =>
  B.ldn h v19 n fun v20 =>
  B.pv (V.idxS n v1 v5) fun v23 =>
  B.ldn h v23 n fun v24 =>
  B.call C f [v20, v24] h fun v25 h =>
  B.pv (V.un .not v25) fun v26 =>
  B.cond v26
  (Q (.bool false) h)
  (B.pv (V.bin .add v5 (.int .i64 1)) fun v16 =>
  Y1 [v16] h))
  (Q (.bool true) h)
@[simp] def sameD.l2 (C : CSem) (n f : Nat) (Q : zQ) (v0 v1 : AVal) : zG
 | [v5], h, Y1 => sameD.k1 C n f Q Y1 v0 v1 v5 h
 | _, _, _ => False
def sameD (C : CSem) (n f : Nat) (v0 v1 : AVal) (h : za) (Q : zQ) : Prop :=
 B.pv (V.zj v0) fun v7 =>
  B.pv (V.zj v1) fun v9 =>
  B.pv (V.bin .neq v7 v9) fun v10 =>
  B.cond v10
  (Q (.bool false) h)
  (zd (sameD.l2 C n f Q v0 v1) [(.int .i64 0)] h)
theorem zwd [DecidableEq T] {f : Nat} (sf : SameE K C f) {y : AVal} {Q : zQ} (hx : Dl K h x L) (hy : Dl K h y M) (hlen : L.length < 4611686018427387904) (hq : Q (.bool (decide (L = M))) h) : sameD C K.n f x y h Q := by
 have hlx := hx.zj
 have hly := hy.zj
 simp -dsimp [sameD, hlx, hly]
 refine B.ze (fun hb => ?_) (fun hb => ?_) <;> simp -dsimp at hb ⊢
 ·rw [decide_eq_false fun e => hb (by rw [e])] at hq
  exact hq
 ·refine zd.intro (fun n vs hh => ∃ k, k + n = L.length ∧ vs = [.int .i64 k] ∧ hh = h ∧ L.take k = M.take k) L.length ?_ ⟨0, by simp, by simp, rfl, by simp⟩
  rintro Y n vs _ ⟨k, hn, rfl, rfl, he⟩ hY
  simp -dsimp [hlx]
  refine B.ze (fun hc => ?_) (fun hc => ?_) <;> simp -dsimp at hc ⊢
  ·obtain ⟨w, hw⟩ := zdz hc
   obtain ⟨u, hu⟩ := zdz (L := M) (k := k) (by omega)
   obtain ⟨a, ea⟩ := hx.get hw
   obtain ⟨b, eb⟩ := hy.get hu
   simp -dsimp only [ea.idx, ea.ldn, eb.idx, eb.ldn, B.zi, B.zk3]
   refine sf _ _ _ _ _ _ ea.at_ eb.at_ ?_
   simp -dsimp only [V.zv6, B.zi]
   refine B.ze (fun hd => ?_) (fun hd => ?_) <;> simp -dsimp at hd ⊢
   ·rw [decide_eq_false fun e => by subst e; rw [hw] at hu; cases hu; exact hd rfl] at hq
    exact hq
   ·simp [zf8 (n := k) (by omega)]
    refine hY (L.length - (k + 1)) _ _ (by omega) ⟨k + 1, by omega, by simp, rfl, ?_⟩
    rw [take_succ hw, take_succ hu, he, hd]
  ·rw [List.take_of_length_le (by omega), List.take_of_length_le (by omega)] at he
   rw [decide_eq_true he] at hq
   exact hq
def mks12 (mk : Int -> Int -> T) : List T := (List.range 12).map fun (i : Nat) => mk 1 (i : Int)
@[simp] def ztn.k1 (C : CSem) (n bytes fm : Nat) (z : List AVal) (Q : zQ) (Y1 : zL) (v0 v3 v6 : AVal) (h : za) : Prop :=
 B.pv (V.bin .lss v6 (.int .i64 12)) fun v27 =>
  B.cond v27
  (B.call C fm [(.int .i64 1), v6] h fun v32 h =>
  B.newO h (zc0 [(0, some n, v32)] (repL 1 z)) fun i33 h =>
  B.appW h n bytes v3 (.sl i33 0 0 1 n 1) fun v34 h =>
  B.pv (V.bin .add v6 (.int .i64 1)) fun v29 =>
  Y1 [v34, v29] h)
  (B.pv (V.zj v0) fun v37 =>
  B.pv (V.zf1 n v3 none (some v37)) fun v38 =>
  Q v38 h)
@[simp] def ztn.l2 (C : CSem) (n bytes fm : Nat) (z : List AVal) (Q : zQ) (v0 : AVal) : zG
 | [v3, v6], h, Y1 => ztn.k1 C n bytes fm z Q Y1 v0 v3 v6 h
 | _, _, _ => False
@[simp] def ztn.k3 (C : CSem) (n bytes fm fl : Nat) (z : List AVal) (Q : zQ) (Y2 : zL) (v0 v3 v4 : AVal) (h : za) : Prop :=
 B.pv (V.zj v0) fun v13 =>
  B.pv (V.bin .lss v4 v13) fun v14 =>
  B.cond v14
  (B.pv (V.idxS n v0 v4) fun v19 =>
  B.ldn h v19 n fun v20 =>
  B.call C fl [v20] h fun v21 h =>
  B.pv (V.setN 0 n v21 (.agg z)) fun c5 =>
  B.pv (V.zbv 0 n c5) fun v23 =>
  B.newO h (zc0 [(0, some n, v23)] (repL 1 z)) fun i24 h =>
  B.appW h n bytes v3 (.sl i24 0 0 1 n 1) fun v25 h =>
  B.pv (V.bin .add v4 (.int .i64 1)) fun v16 =>
  Y2 [v25, v16] h)
  (zd (ztn.l2 C n bytes fm z Q v0) [v3, (.int .i64 0)] h)
@[simp] def ztn.l4 (C : CSem) (n bytes fm fl : Nat) (z : List AVal) (Q : zQ) (v0 : AVal) : zG
 | [v3, v4], h, Y2 => ztn.k3 C n bytes fm fl z Q Y2 v0 v3 v4 h
 | _, _, _ => False
def ztn (C : CSem) (n bytes fm fl : Nat) (z : List AVal) (v0 : AVal) (h : za) (Q : zQ) : Prop :=
 B.pv (V.zj v0) fun v8 =>
  B.pv (V.bin .add v8 (.int .i64 12)) fun v9 =>
  0 < n ∧ B.mks h bytes (some z) (.int .i64 0) v9 fun v10 h =>
  zd (ztn.l4 C n bytes fm fl z Q v0) [v10, (.int .i64 0)] h
theorem zlh (K : DK T Ad) (t : T) (a : Ad) : V.setN 0 K.n (.agg (K.cells t a)) (.agg K.z) = some (.agg (K.cells t a)) := by
 simp [K.len t a, K.zlen]
theorem znj (K : DK T Ad) (t : T) (a : Ad) : V.zbv 0 K.n (.agg (K.cells t a)) = some (.agg (K.cells t a)) := by
 have := K.len t a
 simp [this]
 rw [<- this, List.take_length]
theorem lentD_spec {mk : Int -> Int -> T} {fm fl : Nat} (sm : MarkE K mk C fm) (sl : OneE K true C fl) {Q : zQ} (hx : Dl K h x L) (hlen : L.length <= 100000000)
  (hq : ∀ x' (P PM : List (T × Ad)) h', P.map (·.1) = L -> PM.map (·.1) = mks12 mk -> Owns h h' (.sl K.n x' (P.map K.cs) (PM.map K.cs) :: (K.os true P ++ K.os false PM)) -> Q x' h') : ztn C K.n K.bytes fm fl K.z x h Q := by
 have hlx := hx.zj
 have hmul : ∀ n : Nat, n <= 100000100 -> n * K.bytes <= 140737488355328 := fun n hn => by
  have := Nat.mul_le_mul hn K.small
  omega
 have e1 : IntKind.i64.wrap ((L.length : Int) + 12) = (L.length : Int) + 12 := wrap_i64 (by omega) (by omega)
 simp -dsimp [ztn, hlx, e1]
 refine ⟨K.pos, (Owns.start h).mks (es := K.n) K.zlen (by omega) (by omega) ?_ (by omega) fun y h1 ho => ?_⟩
 ·have := hmul (L.length + 12) (by omega)
  have e : ((L.length : Int) + 12) * K.bytes = ((L.length + 12) * K.bytes : Nat) := by simp
  rw [e]; omega
 refine zd.intro (fun n vs hh => ∃ (k : Nat) (y : AVal) (P : List (T × Ad)) (R : List (List AVal)), k + n = L.length ∧ vs = [y, .int .i64 k] ∧ P.map (·.1) = L.take k ∧ Owns h hh (.sl K.n y (P.map K.cs) R :: K.os true P)) L.length ?_ ⟨0, y, [], _, by simp, by simp, by simp, by simpa [DK.os] using ho⟩
 rintro Y n vs hh ⟨k, y3, P, R3, hn, rfl, hP, ho3⟩ hY
 have hPl : P.length = k := by have := congrArg List.length hP; simp at this; omega
 simp -dsimp [hlx]
 refine B.ze (fun hc => ?_) (fun hc => ?_) <;> simp -dsimp at hc ⊢
 ·obtain ⟨w, hw⟩ := zdz hc
  obtain ⟨a, ea⟩ := (hx.mono ho3.le).get hw
  simp -dsimp only [ea.idx, ea.ldn, B.zi, B.zk3]
  refine sl _ _ _ _ ea.at_ fun a' h4 o4 => ?_
  simp -dsimp only [zlh K _ a', znj K _ a', zrn K _ a', B.zi]
  refine (ho3.join o4).push 0 rfl (K.len _ a') K.pos (by simp; exact hmul _ (by omega)) (by simp [maxLen]; omega) fun y5 h5 o5 _ => ?_
  simp -dsimp [zf8 (n := k) (by omega)]
  refine hY (L.length - (k + 1)) _ _ (by omega) ⟨k + 1, y5, P ++ [(w, a')], [], by omega, by simp, ?_, ?_⟩
  ·rw [take_succ hw, List.map_append, hP]; rfl
  ·rw [DK.zlq, DK.zwh, List.map_append]
   simpa using o5
 ·have hk : k = L.length := by omega
  rw [hk, List.take_length] at hP
  refine zd.intro (fun n vs hh => ∃ (j : Nat) (y : AVal) (PM : List (T × Ad)) (R : List (List AVal)), j + n = 12 ∧ vs = [y, .int .i64 j] ∧ PM.map (·.1) = (List.range j).map (fun (i : Nat) => mk 1 (i : Int)) ∧ Owns h hh (.sl K.n y (P.map K.cs ++ PM.map K.cs) R :: (K.os true P ++ K.os false PM))) 12 ?_
   ⟨0, y3, [], R3, by simp, by simp, by simp, by simpa [DK.os] using ho3⟩
  rintro Z n' vs h4 ⟨j, y4, PM, R4, hj, rfl, hPM, o4⟩ hZ
  have hMl : PM.length = j := by have := congrArg List.length hPM; simpa using this
  simp -dsimp only [ztn.l2, ztn.k1, V.zmc, B.zi]
  refine B.ze (fun hd => ?_) (fun hd => ?_) <;> simp -dsimp at hd
  ·refine sm _ _ _ _ fun a' h5 o5 => ?_
   simp -dsimp only [zrn K _ a']
   refine (o4.join o5).push 0 rfl (K.len _ a') K.pos (by simp; exact hmul _ (by omega)) (by simp [maxLen]; omega) fun y6 h6 o6 _ => ?_
   simp -dsimp [zf8 (n := j) (by omega)]
   refine hZ (12 - (j + 1)) _ _ (by omega) ⟨j + 1, y6, PM ++ [(mk 1 j, a')], [], by omega, by simp, ?_, ?_⟩
   ·rw [List.map_append, hPM, List.range_succ, List.map_append]; rfl
   ·rw [DK.zlq, DK.zwh, List.map_append]
    simpa using o6
  ·have hj12 : j = 12 := by omega
   subst hj12
   obtain ⟨x', e2, e3, e4⟩ := (o4.slAt 0 rfl).slice K.pos (lo := 0) (hi := L.length) (a := none) (b := some (.int .i64 L.length)) (.inl ⟨rfl, rfl⟩) (.inr ⟨_, rfl⟩) (by omega) (by simp; omega)
   simp -dsimp only [hlx, e2, B.zi]
   have h1 : ((P.map K.cs ++ PM.map K.cs ++ R4).take L.length).drop 0 = P.map K.cs := by
    rw [List.append_assoc, List.take_append_of_le_length (by simp; omega), List.take_of_length_le (by simp; omega), List.drop_zero]
   have h2 : (P.map K.cs ++ PM.map K.cs ++ R4).drop L.length = PM.map K.cs ++ R4 := by
    rw [List.append_assoc, List.drop_append_of_le_length (by simp; omega), List.drop_of_length_le (by simp; omega), List.nil_append]
   rw [h1, h2] at e3
   have e5 : SlX h4 K.n x' (P.map K.cs) (PM.map K.cs) := e3.cutR
   refine hq x' P PM h4 hP hPM ?_
   exact o4.turn 0 rfl (o' := .sl K.n x' (P.map K.cs) (PM.map K.cs)) e5 (fun id b hf hb => o4.zlp 0 rfl id b (by show foot y4 = some id; rw [<- e4]; exact hf) hb) (fun j b hb _ => hb) (.inl e4)
def zvv (K : DK T Ad) (mk : Int -> Int -> T) (h : za) (x : AVal) (L : List T) : Prop :=
 ∃ P PM : List (T × Ad), P.map (·.1) = L ∧ PM.map (·.1) = mks12 mk ∧ SlX h K.n x (P.map K.cs) (PM.map K.cs) ∧ zto h (K.os true P) ∧ (∀ p ∈ P, K.ok p.1) ∧ ∀ p ∈ PM, K.at_ h p.1 p.2
theorem zvv.mono {mk : Int -> Int -> T} (hd : zvv K mk h x L) (hle : h.le h') : zvv K mk h' x L := by
 obtain ⟨P, PM, e1, e2, s, a1, a0, a2⟩ := hd
 exact ⟨P, PM, e1, e2, s.mono hle, a1.mono hle, a0, fun p hp => K.mono hle (a2 p hp)⟩
theorem zvv.dl {mk : Int -> Int -> T} (hd : zvv K mk h x L) : Dl K h x L := by
 obtain ⟨P, PM, e1, e2, s, a1, a0, a2⟩ := hd
 exact ⟨P, _, e1, s, fun p hp => K.zv0 (a0 p hp) fun o ho => a1 o (List.mem_flatMap.2 ⟨p, hp, ho⟩)⟩
theorem mks12_ok {mk : Int -> Int -> T} {PM : List (T × Ad)} (hmk : ∀ k i, K.ok (mk k i)) (e2 : PM.map (·.1) = mks12 mk) : ∀ p ∈ PM, K.ok p.1 := fun p hp => by
 have : p.1 ∈ PM.map (·.1) := List.mem_map.2 ⟨p, hp, rfl⟩
 rw [e2, mks12, List.mem_map] at this
 obtain ⟨i, _, e⟩ := this
 rw [<- e]; exact hmk _ _
theorem zvv.of {mk : Int -> Int -> T} {P PM : List (T × Ad)} (hmk : ∀ k i, K.ok (mk k i)) (hok : ∀ t ∈ L, K.ok t) (e1 : P.map (·.1) = L) (e2 : PM.map (·.1) = mks12 mk) (ho : Owns h0 h (.sl K.n x (P.map K.cs) (PM.map K.cs) :: (K.os true P ++ K.os false PM))) : zvv K mk h x L :=
 ⟨P, PM, e1, e2, ho.slAt 0 rfl, fun o hm => ho.is o (List.mem_cons_of_mem _ (List.mem_append_left _ hm)), fun p hp => hok _ (e1 ▸ List.mem_map.2 ⟨p, hp, rfl⟩), fun p hp => K.zv0 (mks12_ok hmk e2 p hp) fun o hm => ho.is o (List.mem_cons_of_mem _ (List.mem_append_right _ (List.mem_flatMap.2 ⟨p, hp, hm⟩)))⟩
@[simp] def keptD.k1 (C : CSem) (n fk fm fs : Nat) (Q : zQ) (Y1 : zL) (v1 v5 v6 : AVal) (h : za) : Prop :=
 B.pv (V.zj v5) fun v19 =>
  B.pv (V.bin .lss v6 v19) fun v20 =>
  B.cond v20
  (B.pv (V.zj v1) fun v25 =>
  B.pv (V.bin .lss v6 v25) fun v26 =>
  B.gd h v26 true (fun K => K v5 h) fun v28 h =>
  B.gd h v26 true (fun K => K v6 h) fun v29 h =>
  B.gd h v26 true (fun K => B.pv (V.idxS n v28 v29) fun v => K v h) fun v30 h =>
  B.gd h v26 true (fun K => B.ldn h v30 n fun v => K v h) fun v31 h =>
  B.gd h v26 true (fun K => K v1 h) fun v32 h =>
  B.gd h v26 true (fun K => K v6 h) fun v33 h =>
  B.gd h v26 true (fun K => B.pv (V.idxS n v32 v33) fun v => K v h) fun v34 h =>
  B.gd h v26 true (fun K => B.ldn h v34 n fun v => K v h) fun v35 h =>
  B.gd h v26 true (fun K => B.call C fk [v31, v35] h K) fun v36 h =>
  B.gd h v26 true (fun K => B.pv (V.un .not v36) fun v => K v h) fun v37 h =>
  B.pick v26 v37 (.bool false) fun v38 =>
  B.gd h v38 false (fun K => K v6 h) fun v40 h =>
  B.gd h v38 false (fun K => K v1 h) fun v41 h =>
  B.gd h v38 false (fun K => B.pv (V.zj v41) fun v => K v h) fun v42 h =>
  B.gd h v38 false (fun K => B.pv (V.bin .geq v40 v42) fun v => K v h) fun v43 h =>
  B.gd h v38 false (fun K => K v43 h) fun v44 h =>
  B.gd h v44 true (fun K => K v5 h) fun v45 h =>
  B.gd h v44 true (fun K => K v6 h) fun v46 h =>
  B.gd h v44 true (fun K => B.pv (V.idxS n v45 v46) fun v => K v h) fun v47 h =>
  B.gd h v44 true (fun K => B.ldn h v47 n fun v => K v h) fun v48 h =>
  B.gd h v44 true (fun K => K v6 h) fun v49 h =>
  B.gd h v44 true (fun K => K v1 h) fun v50 h =>
  B.gd h v44 true (fun K => B.pv (V.zj v50) fun v => K v h) fun v51 h =>
  B.gd h v44 true (fun K => B.pv (V.bin .sub v49 v51) fun v => K v h) fun v52 h =>
  B.gd h v44 true (fun K => B.call C fm [(.int .i64 1), v52] h (B.zkm h [(v47, some n)] K)) fun v53 h =>
  B.gd h v44 true (fun K => B.call C fs [v48, v53] h K) fun v54 h =>
  B.gd h v44 true (fun K => B.pv (V.un .not v54) fun v => K v h) fun v55 h =>
  B.gd h v38 false (fun K => B.pick v44 v55 (.bool false) fun v => K v h) fun v56 h =>
  B.pick v38 (.bool true) v56 fun v57 =>
  B.cond v57
  (Q (.bool false) h)
  (B.pv (V.bin .add v6 (.int .i64 1)) fun v22 =>
  Y1 [v22] h))
  (Q (.bool true) h)
@[simp] def keptD.l2 (C : CSem) (n fk fm fs : Nat) (Q : zQ) (v1 v5 : AVal) : zG
 | [v6], h, Y1 => keptD.k1 C n fk fm fs Q Y1 v1 v5 v6 h
 | _, _, _ => False
@[simp] def keptD.k3 (C : CSem) (n fk fm fs : Nat) (Q : zQ) (v0 v1 : AVal) (h : za) : Prop :=
 B.pv (V.zj v1) fun v14 =>
  B.pv (V.bin .add v14 (.int .i64 12)) fun v15 =>
  B.pv (V.zf1 n v0 none (some v15)) fun v16 =>
  zd (keptD.l2 C n fk fm fs Q v1 v16) [(.int .i64 0)] h
def keptD (C : CSem) (n fk fm fs : Nat) (v0 v1 : AVal) (h : za) (Q : zQ) : Prop :=
 B.pv (V.zj v0) fun v8 =>
  B.pv (V.zj v1) fun v10 =>
  B.pv (V.bin .neq v8 v10) fun v11 =>
  B.cond v11
  (Q (.bool false) h)
  (keptD.k3 C n fk fm fs Q v0 v1 h)
theorem keptD_spec [DecidableEq T] {mk : Int -> Int -> T} {fk fm fs : Nat} (hmk : ∀ k i, K.ok (mk k i)) (sk : KeptE K C fk) (sm : MarkE K mk C fm) (ss : SameE K C fs) {y : AVal} {Q : zQ} (hx : zvv K mk h x L) (hy : Dl K h y M) (hlen : L.length <= 100000000)
  (hq : ∀ h', h.le h' -> Q (.bool (decide (L = M))) h') : keptD C K.n fk fm fs x y h Q := by
 have hlx := hx.dl.zj
 have hly := hy.zj
 simp -dsimp [keptD, hlx, hly]
 refine B.ze (fun hb => ?_) (fun hb => ?_) <;> simp -dsimp at hb ⊢
 ·have hq := hq h (za.le_refl h)
  rw [decide_eq_false fun e => hb (by rw [e])] at hq
  exact hq
 ·obtain ⟨P, PM, rfl, hPM, s, a1, a0, a2⟩ := hx
  have hMl : PM.length = 12 := by have := congrArg List.length hPM; simpa [mks12] using this
  rw [List.length_map] at hb hlen
  have e1 : IntKind.i64.wrap ((M.length : Int) + 12) = ((M.length + 12 : Nat) : Int) := by rw [wrap_i64 (by omega) (by omega)]; omega
  obtain ⟨z, e2, e3, e4⟩ := s.slice K.pos (lo := 0) (hi := M.length + 12) (a := none) (b := some (.int .i64 ((M.length + 12 : Nat) : Int))) (.inl ⟨rfl, rfl⟩) (.inr ⟨_, rfl⟩) (by omega) (by simp; omega)
  have h1 : ((P.map K.cs ++ PM.map K.cs).take (M.length + 12)).drop 0 = (P ++ PM).map K.cs := by rw [List.drop_zero, List.take_of_length_le, List.map_append]; simp; omega
  rw [h1] at e3
  have hlz := e3.zj
  simp only [List.length_map, List.length_append, hMl] at hlz
  simp only [hly, V.zep, e1, e2, B.zi]
  refine zd.intro (fun n vs hh => ∃ k, k + n = P.length + 12 ∧ vs = [.int .i64 k] ∧ h.le hh ∧ (P.map (·.1)).take k = M.take k) (P.length + 12) ?_ ⟨0, by simp, by simp, za.le_refl h, by simp⟩
  rintro Y n vs hh ⟨k, hn, rfl, hle, he⟩ hY
  have e3 := e3.mono hle
  simp -dsimp [hlz]
  refine B.ze (fun hc => ?_) (fun hc => ?_) <;> simp -dsimp at hc ⊢
  ·by_cases hkL : k < P.length
   ·obtain ⟨p, hp⟩ := zdz hkL
    have hkM : k < M.length := by omega
    obtain ⟨u, hu⟩ := zdz hkM
    obtain ⟨b, eb⟩ := (hy.mono hle).get hu
    have hpz : ((P ++ PM).map K.cs)[k]? = some (K.cells p.1 p.2) := by rw [List.getElem?_map, List.getElem?_append_left hkL, hp]; rfl
    have hkz : k < ((P ++ PM).map K.cs).length := by simp; omega
    have e5 := e3.elem hpz
    have e6 := e3.idxN (k := .i64) hkz
    have hw : (P.map (·.1))[k]? = some p.1 := by rw [List.getElem?_map, hp]; rfl
    simp -dsimp only [hly, V.zmc, show ((k : Int) < (M.length : Int)) by omega, decide_true, B.gd_t, B.gdb_pure, B.zn3, gv_true, e6, e5, eb.idx, eb.ldn, B.zi, B.zk3]
    refine sk _ _ _ _ _ _ (a0 p (List.mem_of_getElem? hp)) (zto.mono (l := K.obs true p.1 p.2) (fun o ho => a1 o (List.mem_flatMap.2 ⟨p, List.mem_of_getElem? hp, ho⟩)) hle) eb.at_ ?_
    simp -dsimp only [B.gd_t, B.zn3, V.zv6, B.zi, B.pick_t]
    by_cases hwu : p.1 = u
    ·simp -dsimp only [hwu, decide_true, Bool.not_true, B.gd_f, Bool.not_false, B.zn3, hly, V.bin_geq, show ¬ ((M.length : Int) <= (k : Int)) by omega, decide_false, B.gd_t, B.zu9, B.pick_f, B.zi, B.cond_false, V.zep, zf8 (n := k) (by omega)]
     refine hY (P.length + 12 - (k + 1)) _ _ (by omega) ⟨k + 1, by omega, rfl, hle, ?_⟩
     rw [take_succ hw, take_succ hu, he, hwu]
    ·simp -dsimp only [hwu, decide_false, Bool.not_false, B.gd_f, Bool.not_true, B.zu9, B.pick_t, B.cond_true, B.gd_tup]
     have hq := hq hh hle
     rw [decide_eq_false fun e => by rw [e, hu] at hw; cases hw; exact hwu rfl] at hq
     exact hq
   ·have hkM : ¬ k < M.length := by omega
    obtain ⟨p, hp⟩ := zdz (L := PM) (k := k - P.length) (by omega)
    have hpz : ((P ++ PM).map K.cs)[k]? = some (K.cells p.1 p.2) := by rw [List.getElem?_map, List.getElem?_append_right (by omega), hp]; rfl
    have hkz : k < ((P ++ PM).map K.cs).length := by simp; omega
    have e5 := e3.elem hpz
    have e6 := e3.idxN (k := .i64) hkz
    have hm : p.1 = mk 1 ((k - M.length : Nat) : Int) := by
     have : (PM.map (·.1))[k - P.length]? = some p.1 := by rw [List.getElem?_map, hp]; rfl
     rw [hPM, mks12, List.getElem?_map, List.getElem?_range (by omega)] at this
     simp only [Option.map_some, Option.some.injEq] at this
     rw [<- this]; congr 2; omega
    have e7 : IntKind.i64.wrap ((k : Int) - M.length) = ((k - M.length : Nat) : Int) := by rw [wrap_i64 (by omega) (by omega)]; omega
    simp -dsimp only [hly, V.zmc, show ¬ ((k : Int) < (M.length : Int)) by omega, decide_false, B.gd_t, B.gdb_pure, B.zu9, gv_false, B.pick_f, B.gd_f, Bool.not_false, B.zn3, gv_true, V.bin_geq, show ((M.length : Int) <= (k : Int)) by omega, decide_true, e6, e5, V.zkq, e7, B.zi, B.zk3]
    refine sm _ _ _ _ fun a' h5 o5 => ⟨?_, ?_⟩
    ·intro q hq
     rw [List.mem_singleton.1 hq]
     exact ⟨_, e5, (e3.mono o5.le).elem hpz⟩
    ·simp -dsimp only [gv_true, B.gd_t, B.zn3, B.zi, decide_true]
     refine ss _ _ _ _ _ _ (K.mono (za.le_trans hle o5.le) (a2 p (List.mem_of_getElem? hp))) (K.zv0 (hmk _ _) o5.is) ?_
     simp -dsimp only [hm, gv_true, decide_true, decide_false, V.zv6, Bool.not_true, Bool.not_false, B.gd_t, B.gd_f, B.zn3, B.pick_t, B.pick_f, B.zi, B.cond_false, V.zep, zf8 (n := k) (by omega)]
     refine hY (P.length + 12 - (k + 1)) _ _ (by omega) ⟨k + 1, by omega, rfl, za.le_trans hle o5.le, ?_⟩
     rw [List.take_of_length_le (by simp; omega), List.take_of_length_le (by omega)] at he ⊢
     exact he
  ·have hq := hq hh hle
   rw [List.take_of_length_le (by simp; omega), List.take_of_length_le (by omega)] at he
   rw [decide_eq_true he] at hq
   exact hq
end
end Go.Ab
namespace Go.Ab
variable {C : CSem} {N : zN}
structure Itm where
 Code : List UInt8
 Life : Int
 zf2 : List Part
 zfk : List (List UInt8)
 deriving DecidableEq
def few : Nat := 100000000
abbrev Itm.ok (t : Itm) : Prop := t.zf2.length <= few ∧ t.zfk.length <= few
def partsOb (b : Bool) (x : AVal) (l : List Part) : Ob := .sl 2 x (l.map Part.cs) (bif b then marksPart else [])
def textsOb (b : Bool) (x : AVal) (l : List (List UInt8)) : Ob := .sl 1 x (l.map tc) (bif b then marksText else [])
def zh2 : DK Itm (AVal × AVal) where
 n := 4
 bytes := 72
 z := [.str [], .int .i64 0, .nils, .nils]
 pos := by omega
 small := by omega
 zlen := rfl
 cells t a := [.str t.Code, .int .i64 t.Life, a.1, a.2]
 len _ _ := rfl
 at_ h t a := (∃ R, SlX h 2 a.1 (t.zf2.map Part.cs) R) ∧ (∃ R, SlX h 1 a.2 (t.zfk.map tc) R) ∧ t.ok
 mono hle ha := ⟨ha.1.imp fun _ r => r.mono hle, ha.2.1.imp fun _ r => r.mono hle, ha.2.2⟩
 ok := Itm.ok
 at_ok ha := ha.2.2
 obs b t a := [partsOb b a.1 t.zf2, textsOb b a.2 t.zfk]
 zv0 {b h t a} hk ha := ⟨⟨_, show SlX h 2 a.1 (t.zf2.map Part.cs) (bif b then marksPart else []) from ha (partsOb b a.1 t.zf2) (by simp)⟩, ⟨_, show SlX h 1 a.2 (t.zfk.map tc) (bif b then marksText else []) from ha (textsOb b a.2 t.zfk) (by simp)⟩, hk⟩
theorem Itm.eq_iff (t u : Itm) : t = u ↔ ((t.Code = u.Code ∧ t.Life = u.Life) ∧ t.zf2 = u.zf2) ∧ t.zfk = u.zfk := by
 cases t; cases u; simp [Itm.mk.injEq, and_assoc]
def zdo.Spec (C : CSem) (N : zN) : Prop := SameE zh2 C (N 110)
theorem zdo.spec (i : zdo.Imp C N) (s1 : zcu.Spec C N) (s2 : zct.Spec C N) : zdo.Spec C N := by
 intro t u a b h Q ha hb hq
 obtain ⟨⟨R1, a1⟩, ⟨R2, a2⟩, a3, a4⟩ : (∃ R, SlX h 2 a.1 (t.zf2.map Part.cs) R) ∧ (∃ R, SlX h 1 a.2 (t.zfk.map tc) R) ∧ t.ok := ha
 obtain ⟨⟨S1, b1⟩, ⟨S2, b2⟩, b3, b4⟩ : (∃ R, SlX h 2 b.1 (u.zf2.map Part.cs) R) ∧ (∃ R, SlX h 1 b.2 (u.zfk.map tc) R) ∧ u.ok := hb
 unfold few at a3 a4
 apply i
 simp +contextual -dsimp [zh2]
 refine B.zee (v := .bool (decide (t.zf2 = u.zf2))) (fun _ Q hq => s1 _ _ _ _ _ _ _ _ a1 b1 (by omega) hq) ?_
 simp +contextual -dsimp
 refine B.zee (v := .bool (decide (t.zfk = u.zfk))) (fun _ Q hq => s2 _ _ _ _ _ _ _ _ a2 b2 (by omega) hq) ?_
 simp -dsimp
 refine zk ?_
 have : decide (t = u) = (((decide (t.Code = u.Code) && decide (t.Life = u.Life)) && decide (t.zf2 = u.zf2)) && decide (t.zfk = u.zfk)) := by
  rw [Bool.eq_iff_iff]
  simp only [decide_eq_true_eq, Bool.and_eq_true]
  exact Itm.eq_iff t u
 rw [this] at hq
 exact hq
def zbx.Spec (C : CSem) (N : zN) : Prop := ∀ (x y : AVal) (L M : List Itm) (h : za) (Q : zQ), Dl zh2 h x L -> Dl zh2 h y M -> L.length < 4611686018427387904 -> Q (.bool (decide (L = M))) h -> C (N 134) [x, y] h Q
theorem zbx.spec (i : zbx.Imp C N) (s1 : zdo.Spec C N) : zbx.Spec C N := fun x y L M h Q hx hy hl hq =>
 i x y h Q (zwd (K := zh2) s1 hx hy hl (zk hq))
end Go.Ab
namespace Go.Ab
variable {C : CSem} {N : zN}
structure Row where
 Key : List UInt8
 Value : List UInt8
 deriving DecidableEq
def bOb (b : Bool) (x : AVal) (s : List UInt8) : Ob := .sl 1 x (s.map bc) (bif b then marksByte else [])
theorem bOb_at {b : Bool} {h : za} {x : AVal} {s : List UInt8} (hs : s.length <= far) (ha : (bOb b x s).at h) : Bs h x s := ⟨⟨_, ha⟩, hs⟩
abbrev Row.ok (r : Row) : Prop := r.Key.length <= far ∧ r.Value.length <= far
def rowK : DK Row (AVal × AVal) where
 n := 2
 bytes := 48
 z := [.nils, .nils]
 pos := by omega
 small := by omega
 zlen := rfl
 cells _ a := [a.1, a.2]
 len _ _ := rfl
 at_ h t a := Bs h a.1 t.Key ∧ Bs h a.2 t.Value
 mono hle ha := ⟨ha.1.mono hle, ha.2.mono hle⟩
 ok := Row.ok
 at_ok ha := ⟨ha.1.2, ha.2.2⟩
 obs b t a := [bOb b a.1 t.Key, bOb b a.2 t.Value]
 zv0 {b h t a} hk ha := ⟨bOb_at (b := b) hk.1 (ha _ (by simp)), bOb_at (b := b) hk.2 (ha _ (by simp))⟩
def zcn.zns (C : CSem) (N : zN) : Prop := ∀ (x y : AVal) (s t : List UInt8) (h : za) (Q : zQ), Bs h x s -> Bs h y t -> Q (.bool (decide (s = t))) h -> C (N 34) [x, y] h Q
theorem zcn.spl (i : zcn.Imp C N) : zcn.zns C N := fun x y s t h Q ⟨⟨R, hx⟩, hs⟩ ⟨⟨S, hy⟩, ht⟩ hq =>
 i x y h Q (zwc bS hx hy (by unfold far at hs; omega) (zk hq))
def zcw.zns (C : CSem) (N : zN) : Prop := ∀ (x : AVal) (s : List UInt8) (h : za) (Q : zQ), Bs h x s -> (∀ x' h', Owns h h' [bOb true x' s] -> Q x' h') -> C (N 37) [x] h Q
theorem zcw.spl (i : zcw.Imp C N) (s1 : zcq.Spec C N) : zcw.zns C N := fun x s h Q ⟨⟨R, hx⟩, hs⟩ hq =>
 i x h Q (lentS_specL bS (z := .int .u8 0) (m := 1) (mk := zgu 1) (s1 1) hx (by unfold far at hs; omega) (by unfold far at hs; omega) fun x' h' ho => zk (hq x' h' ho))
def zci.zns (C : CSem) (N : zN) : Prop := ∀ (x y : AVal) (s t : List UInt8) (h : za) (Q : zQ), s.length <= far -> (bOb true x s).at h -> Bs h y t -> Q (.bool (decide (s = t))) h -> C (N 39) [x, y] h Q
theorem zci.spl (i : zci.Imp C N) (s1 : zcq.Spec C N) : zci.zns C N := fun x y s t h Q hs hx ⟨⟨R, hy⟩, ht⟩ hq =>
 i x y h Q (keptS_specL bS (m := 1) (mk := zgu 1) (s1 1) hx hy (by unfold far at hs; omega) (zk hq))
def zdj.Spec (C : CSem) (N : zN) : Prop := SameE rowK C (N 118)
theorem zdj.spec (i : zdj.Imp C N) (s1 : zcn.zns C N) : zdj.Spec C N := by
 intro t u a b h Q ha hb hq
 obtain ⟨a1, a2⟩ : Bs h a.1 t.Key ∧ Bs h a.2 t.Value := ha
 obtain ⟨b1, b2⟩ : Bs h b.1 u.Key ∧ Bs h b.2 u.Value := hb
 apply i
 simp -dsimp [rowK]
 refine s1 _ _ _ _ _ _ a1 b1 ?_
 simp +contextual -dsimp
 refine B.zee (v := .bool (decide (t.Value = u.Value))) (fun _ Q hq => s1 _ _ _ _ _ _ a2 b2 hq) ?_
 simp -dsimp
 refine zk ?_
 have : decide (t = u) = (decide (t.Key = u.Key) && decide (t.Value = u.Value)) := by
  cases t; cases u; simp [Row.mk.injEq]
 rw [this] at hq
 exact hq
def zec.Spec (C : CSem) (N : zN) : Prop := OneE rowK true C (N 271)
theorem zec.spec (i : zec.Imp C N) (s1 : zcw.zns C N) : zec.Spec C N := by
 intro t a h Q ha hq
 obtain ⟨a1, a2⟩ : Bs h a.1 t.Key ∧ Bs h a.2 t.Value := ha
 apply i
 simp -dsimp [rowK]
 refine s1 _ _ _ _ a1 fun x1 h1 o1 => ?_
 simp -dsimp [((o1.is _ (List.mem_singleton_self _)) : (bOb true x1 t.Key).at h1).zm]
 refine s1 _ _ _ _ (a2.mono o1.le) fun x2 h2 o2 => ?_
 simp -dsimp [((o2.is _ (List.mem_singleton_self _)) : (bOb true x2 t.Value).at h2).zm]
 exact zk (hq (x1, x2) h2 (o1.join o2))
def zed.Spec (C : CSem) (N : zN) : Prop := KeptE rowK C (N 280)
theorem zed.spec (i : zed.Imp C N) (s0 : zdj.Spec C N) (s1 : zci.zns C N) : zed.Spec C N := by
 intro t u a b h Q hok ha hb hq
 apply i
 have ha' := rowK.zv0 hok ha
 simp -dsimp [rowK]
 refine s0 t u a b h _ ha' hb ?_
 simp +contextual -dsimp
 refine B.zee (v := .bool (decide (t.Key = u.Key))) (fun _ Q hq => s1 _ _ _ _ _ _ hok.1 (ha _ (by simp [rowK])) hb.1 hq) ?_
 simp +contextual -dsimp
 refine B.zee (v := .bool (decide (t.Value = u.Value))) (fun _ Q hq => s1 _ _ _ _ _ _ hok.2 (ha _ (by simp [rowK])) hb.2 hq) ?_
 simp -dsimp
 refine zk ?_
 have : decide (t = u) = (decide (t = u) && decide (t.Key = u.Key) && decide (t.Value = u.Value)) := by
  by_cases h : t = u
  ·subst h; simp
  ·simp [h]
 rw [this] at hq
 exact hq
def zne (k i : Int) : Row := ⟨[zgu k i], []⟩
theorem zsf (k i : Int) : rowK.ok (zne k i) := ⟨by simp [zne, far], by simp [zne]⟩
def zdh.Spec (C : CSem) (N : zN) : Prop := MarkE rowK zne C (N 117)
theorem zdh.spec (i : zdh.Imp C N) (s1 : zcq.Spec C N) : zdh.Spec C N := by
 intro k j h Q hq
 apply i
 simp -dsimp
 refine s1 _ _ _ _ ?_
 simp -dsimp
 intro id hid
 simp -dsimp
 have o := (Owns.start h).zl6 hid (n := 1) (cp := 1) (es := 1) (cs := [.int .u8 ((zgu k j).toNat : Int)]) (L := [zgu k j].map bc) (R := []) (by simp) rfl (by simp) rfl
 exact zk (hq (.sl id 0 0 1 1 1, .nils) _ (by simpa [rowK, zne, bOb] using o.nils 1))
def zb8.Spec (C : CSem) (N : zN) : Prop := ∀ (x y : AVal) (L M : List Row) (h : za) (Q : zQ), Dl rowK h x L -> Dl rowK h y M -> L.length < 4611686018427387904 -> Q (.bool (decide (L = M))) h -> C (N 263) [x, y] h Q
theorem zb8.spec (i : zb8.Imp C N) (s1 : zdj.Spec C N) : zb8.Spec C N := fun x y L M h Q hx hy hl hq =>
 i x y h Q (zwd (K := rowK) s1 hx hy hl (zk hq))
def zby.Spec (C : CSem) (N : zN) : Prop := ∀ (x y : AVal) (L M : List Row) (h : za) (Q : zQ), zvv rowK zne h x L -> Dl rowK h y M -> L.length <= 100000000 ->
 Q (.bool (decide (L = M))) h -> C (N 258) [x, y] h Q
theorem zby.spec (i : zby.Imp C N) (s1 : zed.Spec C N) (s2 : zdh.Spec C N) (s3 : zdj.Spec C N) : zby.Spec C N := fun x y L M h Q hx hy hl hq =>
 i x y h Q (keptD_spec (K := rowK) zsf s1 s2 s3 hx hy hl fun h' hle => zrp hle hq)
end Go.Ab
namespace Go.Ab
abbrev zoy : List UInt8 -> List UInt8 -> Bool := Op.bytesLess
theorem lessB_nil (a : List UInt8) : zoy a [] = false := by cases a <;> rfl
theorem zty (a b : UInt8) (as1 bs : List UInt8) : zoy (a :: as1) (b :: bs) = (decide (a < b) || (a == b && zoy as1 bs)) := rfl
abbrev cmpB := Lib.compareBytes
section
variable {V : Type}
variable (E : V -> List V)
variable {E}
variable {K : List V} {D : V -> Option Nat}
end
def partsIn (x : Itm) : List (List UInt8) := x.zf2.map Part.Item
end Go.Ab
namespace Go.Ab
variable {C : CSem} {N : zN}
def znr.right (w : znr) : Bool := decide (0 <= w.From) && decide (w.From <= w.zrx) && decide (w.zrx <= 4001)
def zdl.Spec (C : CSem) (N : zN) : Prop := ∀ (a b : Int) (h : za) (Q : zQ), Q (.bool (znr.right ⟨a, b⟩)) h -> C (N 5) [.agg [.int .i64 a, .int .i64 b]] h Q
theorem zdl.spec (i : zdl.Imp C N) : zdl.Spec C N := by
 intro a b h Q hq
 apply i
 simp +contextual -dsimp
 exact zk hq
end Go.Ab
