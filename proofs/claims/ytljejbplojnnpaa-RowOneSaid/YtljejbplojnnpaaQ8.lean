/- What is proved: a part of the way to the statement: Crow7. No conditions. -/
import Derived.Test.YtljejbplojnnpaaQ7
import Derived.Test.YtljejbplojnnpaaQ6
set_option linter.unusedVariables false
set_option linter.unusedSimpArgs false
namespace Go.Ab
variable {C : CSem} {N : Nat → Nat}
theorem Owns.lay {h0 h : AHeap} {l l' : List Ob} (ho : Owns h0 h (l ++ l')) : ∃ hb : AHeap, h0.le hb ∧ hb.le h ∧ Owns hb h l ∧ AllAt hb l' := by
 obtain ⟨q1, q2⟩ := (ho.perm List.perm_append_comm).out
 exact ⟨_, q1.le, q2.le, q2, q1.is⟩
theorem sing_flat : ∀ ys : List AVal, (ys.map fun y => [y]).flatten = ys
 | [] => rfl
 | y :: r => by rw [List.map_cons, List.flatten_cons, sing_flat r]; rfl
theorem pieceAdd {hb hh h1 : AHeap} {l : List Ob} {x : AVal} {M : List UInt8} {xs : List AVal} {L : List (List UInt8)} (ho : Owns hb hh l) (hp : Pcs hb xs L) (o1 : Owns hh h1 [.sl 1 x (M.map bc) []]) :
  ∃ hb' : AHeap, hb.le hb' ∧ Owns hb' h1 l ∧ Pcs hb' (xs ++ [x]) (L ++ [M]) := by
 obtain ⟨b, m1, m2, o, a⟩ := (ho.join o1).lay
 exact ⟨b, m1, o, (hp.mono m1).snoc ⟨[], a (.sl 1 x (M.map bc) []) (by simp)⟩⟩
theorem litPiece {h : AHeap} {s : List UInt8} {cs : List AVal} (n : Nat) {K : Nat → AHeap → Prop} (hcs : cs = s.map fun b => .int .u8 (b.toNat : Int)) (hn : n = s.length) (hk : ∀ id h', Owns h h' [.sl 1 (.sl id 0 0 n 1 n) (s.map bc) []] → K id h') :
  B.newO h (some cs) K := fun id hid => by
 refine hk _ _ ?_
 exact (Owns.start h).newSl (L := s.map bc) (R := []) hid (by simp) (by simpa using hn) (by simp; omega) (by rw [List.append_nil, bc_flat, hcs])
theorem conv_own {h0 h : AHeap} {x : AVal} {s : List UInt8} {K : AVal → Prop} (ho : Owns h0 h [.sl 1 x (s.map bc) []]) (hs : s ≠ []) (hk : K x) : B.conv h x K := by
 have hx := ho.slAt 0 rfl
 rcases hx.at_ with ⟨e, _⟩ | ⟨id, g, off, cp, b, hi, h1, h1', h2, h3, h4, hh, h5⟩
 ·exact absurd (List.map_eq_nil_iff.1 e) hs
 ·subst h1
  have := ho.ownAt 0 rfl id b rfl h2
  have hl : 0 < s.length := List.length_pos_iff.2 hs
  simp only [B.conv, A.conv, h2, h3, this, Option.isSome_some]
  refine ⟨?_, hk⟩
  simp; omega
theorem appLit {hb hh : AHeap} {l : List Ob} {v : AVal} {xs ys : List AVal} {m : Nat} {K : AVal → AHeap → Prop} (ho : Owns hb hh (l ++ [.sl 1 v (xs.map fun y => [y]) []])) (hm : m = ys.length) (hl : xs.length + ys.length ≤ 1000)
  (hK : ∀ v' h', Owns hb h' (l ++ [.sl 1 v' ((xs ++ ys).map fun y => [y]) []]) → K v' h') : B.newO hh (some ys) fun i h => B.appW h 1 24 v (.sl i 0 0 m 1 m) K := fun id hid => by
 have hf : ys = ((ys.map fun y => [y]) ++ []).flatten := by rw [List.append_nil, sing_flat]
 refine (ho.grow (le_upd _ hid)).appW l.length endGet (M := ys.map fun y => [y]) (R' := []) (SlX.lit (upd_same ..) (by simp) (by simpa using hm) (by simp; omega) hf) Nat.one_pos (by simp; omega) (by simp [maxLen]; omega) fun v' h' o1 _ => hK v' h' ?_
 rw [endSet] at o1
 rw [List.map_append]; exact o1
theorem litPcs {hb hh : AHeap} {l : List Ob} {ys : List AVal} (m : Nat) {K : Nat → AHeap → Prop} (ho : Owns hb hh l) (hm : m = ys.length)
  (hK : ∀ id h', hh.le h' → Owns hb h' (l ++ [.sl 1 (.sl id 0 0 m 1 m) (ys.map fun y => [y]) []]) → K id h') : B.newO hh (some ys) K := fun id hid => by
 have hf : ys = ((ys.map fun y => [y]) ++ []).flatten := by rw [List.append_nil, sing_flat]
 exact hK _ _ (le_upd _ hid) (ho.newSl hid (by simp) (by simpa using hm) (by simp; omega) hf)
theorem kept_facts {t : Itm} (h : keptB t = true) : t.Parts.length ≤ 8 ∧ t.Others.length ≤ 4 ∧ (∀ p ∈ t.Parts, codeRight p.Item = true) ∧ codeRight t.Code = true ∧ ∀ o ∈ t.Others, codeRight o = true := by
 unfold keptB codedB at h
 simp only [Bool.and_eq_true, List.all_eq_true, List.length_cons, decide_eq_true_eq] at h
 obtain ⟨⟨h1, h2, h3⟩, h4⟩ := h
 refine ⟨?_, by omega, ?_, h1 _ (by simp), fun o ho => h1 o (by simp [ho])⟩
 ·by_cases e : t.Parts = []
  ·rw [e]; simp
  ·rw [decide_eq_false e] at h4
   simp only [cond_false, Bool.and_eq_true, decide_eq_true_eq] at h4
   have := h4.2.2.2.2
   unfold partsIn at this
   simpa using this
 ·by_cases e : t.Parts = []
  ·rw [e]; simp
  ·rw [decide_eq_false e] at h4
   simp only [cond_false, Bool.and_eq_true, List.all_eq_true] at h4
   exact fun p hp => h4.2.2.1 _ (List.mem_map.2 ⟨p, hp, rfl⟩)
theorem ordB_all {T : Type} {ok : T → Bool} {lt : T → T → Bool} : ∀ {l : List T} {p : Option T}, ordB ok lt p l = true → ∀ x ∈ l, ok x = true
 | [], _, _, x, hx => by cases hx
 | a :: l, p, h, x, hx => by
  rw [ordB] at h
  simp only [Bool.and_eq_true] at h
  rcases List.mem_cons.1 hx with rfl | hx
  ·exact h.1.1
  ·exact ordB_all h.2 x hx
theorem numPut (s1 : row_number.Spec C N) (s2 : row_All_1.Spec C N) {h0 h : AHeap} {p out k : AVal} {P : List (Row × (AVal × AVal))} {key : List UInt8} {n : Int} {j : Nat} {K : AVal → AHeap → Prop} (ho : Owns h0 h (RowsO p out P ++ [bOb false k key])) (hj : j ≤ 8) (hP : P.length ≤ 1000000)
  (hK : ∀ out' v h', Owns h0 h' (RowsO p out' (P ++ [(⟨key, be n j⟩, (k, v))])) → K (.tup []) h') :
  B.call C (N 423) [.int .i64 n, .int .i64 (j : Int)] h fun v26 h => B.newO h (fillL [(0, none, v26)] (repL 1 [.nils])) fun i27 h => B.callv h C (.fn (N 425) [] [p]) [k, .sl i27 0 0 1 1 1] K := by
 refine s1 n j _ _ hj fun x' h1 o1 => ?_
 have c := (o1.slAt 0 rfl).isCell
 simp -dsimp [c]
 refine litPcs 1 (ho.join o1) rfl (ys := [x']) fun id h2 hle o2 => ?_
 generalize AVal.sl id 0 0 1 1 1 = v at *
 simp -dsimp only [B.callv_fn, List.nil_append, List.cons_append]
 have hx : SlX h2 1 x' ((be n j).map bc) [] := o2.is (.sl 1 x' ((be n j).map bc) []) (by simp)
 have hv : SlX h2 1 v ([x'].map fun y => [y]) [] := o2.is (.sl 1 v ([x'].map fun y => [y]) []) (by simp)
 refine s2 h0 h2 p out k P key v [x'] [be n j] [] _ (o2.sub (by simp)) hv ⟨⟨_, hx⟩, trivial⟩ (by simp) (by simp; omega) hP fun out' w h3 o3 => hK out' w h3 ?_
 simpa using o3
theorem All_lines (s1 : row_number.Spec C N) (s2 : row_All_1.Spec C N) (s3 : code_Put.Spec C N) (s4 : row_join.Spec C N) {h0 h : AHeap} {s : Sta} {p z out : AVal} {R : List (List AVal)} {P : List (Row × (AVal × AVal))} {Q : AVal → AHeap → Prop} (hn : SlX h0 8 z (s.Lines.map Line.cs) R) (hl : P.length + s.Lines.length ≤ 1000000) (ho : Owns h0 h (RowsO p out P))
  (hq : ∀ out' P' h', P'.map (·.1) = P.map (·.1) ++ s.Lines.map lineRow → Owns h0 h' (RowsO p out' P') → Q out' h') :
  LoopR (row_All.l2 C N Q p (.fn (N 425) [] [p]) z (.int .i64 s.Lines.length)) [.int .i64 0] h := by
 refine LoopR.intro (fun n vs hh => ∃ (k : Nat) (out : AVal) (P' : List (Row × (AVal × AVal))), k + n = s.Lines.length ∧ vs = [.int .i64 (k : Int)] ∧ P'.map (·.1) = P.map (·.1) ++ (s.Lines.take k).map lineRow ∧ Owns h0 hh (RowsO p out P')) s.Lines.length ?_ ⟨0, out, P, by simp, rfl, by simp, ho⟩
 rintro Y n vs hh ⟨k, out, P', hk, rfl, hP', ho⟩ hY
 have hPl := congrArg List.length hP'
 simp only [List.length_map, List.length_append, List.length_take] at hPl
 simp -dsimp only [row_All.l2, row_All.k1, lssN, B.pv_some]
 refine B.cond_bool (fun hc => ?_) (fun hc => ?_)
 ·rw [decide_eq_true_eq] at hc
  obtain ⟨w, hw⟩ := get_lt hc
  have hkl : k < (s.Lines.map Line.cs).length := by simpa using hc
  have e1 : V.idxS 8 z (.int .i64 (k : Int)) = some (elp 8 z k 0) := hn.idxN hkl
  have e2 := (hn.mono ho.le).elem (get_map hw)
  have e3 : IntKind.u8.wrap w.Rank = ((byt w.Rank).toNat : Int) := u8_byt _
  simp -dsimp [e1, e2, e3]
  refine s1 w.Id 8 _ _ (by omega) fun a1 h1 o1 => ?_
  obtain ⟨b1, m1, ho1, p1⟩ := pieceAdd (xs := []) (L := []) ho trivial o1
  simp -dsimp
  refine litPiece 1 (s := [111]) rfl rfl fun i153 h2 o2 => ?_
  refine conv_own o2 (by simp) ?_
  obtain ⟨b2, m2, ho2, p2⟩ := pieceAdd ho1 p1 o2
  generalize AVal.sl i153 0 0 1 1 1 = a2 at *
  have c1 := (p2.get 0 a1 _ rfl rfl).elim fun _ r => r.isCell
  have c2 := (p2.get 1 a2 _ rfl rfl).elim fun _ r => r.isCell
  simp -dsimp [c1, c2]
  refine litPcs 2 ho2 rfl (ys := [a2, a1]) fun i158 h3 hle3 o3 => ?_
  generalize AVal.sl i158 0 0 2 1 2 = a3 at *
  have p3 := p2.mono (AHeap.le_trans ho2.le hle3)
  refine s4 a3 [a2, a1] [[111], be w.Id 8] [] _ _ (o3.is (.sl 1 a3 ([a2, a1].map fun y => [y]) []) (by simp)) ⟨p3.2.1, p3.1, trivial⟩ (by simp) (by simp) fun key h4 o4 => ?_
  have ho4 : Owns b2 h4 (RowsO p out P' ++ [bOb false key ([[111], be w.Id 8].flatten)]) := (o3.join o4).sub ((List.sublist_append_left _ _).append_right _)
  refine s3 w.Item _ _ fun a5 h5 o5 => ?_
  obtain ⟨b5, m5, ho5, p5⟩ := pieceAdd (xs := []) (L := []) ho4 trivial o5
  refine s1 w.Qty 4 _ _ (by omega) fun a6 h6 o6 => ?_
  obtain ⟨b6, m6, ho6, p6⟩ := pieceAdd ho5 p5 o6
  refine s1 w.Asked 2 _ _ (by omega) fun a7 h7 o7 => ?_
  obtain ⟨b7, m7, ho7, p7⟩ := pieceAdd ho6 p6 o7
  refine s1 (IntKind.i64.wrap (w.Day + 1)) 2 _ _ (by omega) fun a8 h8 o8 => ?_
  obtain ⟨b8, m8, ho8, p8⟩ := pieceAdd ho7 p7 o8
  refine s3 w.Code _ _ fun a9 h9 o9 => ?_
  obtain ⟨b9, m9, ho9, p9⟩ := pieceAdd ho8 p8 o9
  simp -dsimp
  refine litPiece 2 (s := [byt w.Rank, w.State]) rfl rfl fun i174 h10 o10 => ?_
  obtain ⟨b10, m10, ho10, p10⟩ := pieceAdd ho9 p9 o10
  generalize AVal.sl i174 0 0 2 1 2 = a10 at *
  have c5 := (p10.get 0 a5 _ rfl rfl).elim fun _ r => r.isCell
  have c6 := (p10.get 1 a6 _ rfl rfl).elim fun _ r => r.isCell
  have c7 := (p10.get 2 a7 _ rfl rfl).elim fun _ r => r.isCell
  have c8 := (p10.get 3 a8 _ rfl rfl).elim fun _ r => r.isCell
  have c9 := (p10.get 4 a9 _ rfl rfl).elim fun _ r => r.isCell
  have c10 := (p10.get 5 a10 _ rfl rfl).elim fun _ r => r.isCell
  simp -dsimp [c5, c6, c7, c8, c9, c10]
  refine litPcs 6 ho10 rfl (ys := [a5, a6, a7, a10, a8, a9]) fun i182 h11 hle11 o11 => ?_
  generalize AVal.sl i182 0 0 6 1 6 = a11 at *
  have p11 := p10.mono (AHeap.le_trans ho10.le hle11)
  simp -dsimp only [B.callv_fn, List.nil_append, List.cons_append]
  refine s2 b10 h11 p out key P' _ a11 [a5, a6, a7, a10, a8, a9] [codePut w.Item, be w.Qty 4, be w.Asked 2, [byt w.Rank, w.State], be (IntKind.i64.wrap (w.Day + 1)) 2, codePut w.Code] [] _ (o11.sub (List.sublist_append_left _ _)) (o11.is (.sl 1 a11 ([a5, a6, a7, a10, a8, a9].map fun y => [y]) []) (by simp)) ⟨p11.1, p11.2.1, p11.2.2.1, p11.2.2.2.2.2.1, p11.2.2.2.1, p11.2.2.2.2.1, trivial⟩ (by simp) ?_ (by omega) fun out' v h12 o12 => ?_
  ·have h1 := codePut_len w.Item
   have h2 := codePut_len w.Code
   simp
   omega
  ·simp -dsimp only [add1 (show k < 4611686018427387904 by omega), B.pv_some]
   refine hY (s.Lines.length - (k + 1)) _ _ (by omega) ⟨k + 1, out', _, by omega, rfl, ?_, o12.back ?_⟩
   ·rw [List.map_append, hP', take_succ hw, List.map_append, List.append_assoc]
    have e : be (IntKind.i64.wrap (w.Day + 1)) 2 = be (w.Day + 1) 2 := be_congr (by rw [IntKind.wrap_i64]; omega) 2 (by omega)
    simp [lineRow, lineVal, e]
   ·exact AHeap.le_trans m1 (AHeap.le_trans m2 (AHeap.le_trans m5 (AHeap.le_trans m6 (AHeap.le_trans m7 (AHeap.le_trans m8 (AHeap.le_trans m9 m10))))))
 ·rw [decide_eq_false_iff_not] at hc
  have : k = s.Lines.length := by omega
  subst this
  rw [List.take_length] at hP'
  obtain ⟨id, rfl, hb⟩ := ho.boxAt 0 rfl
  simp -dsimp [ldv_at hb]
  exact hq out P' hh hP' ho
theorem All_lots (s1 : row_number.Spec C N) (s2 : row_All_1.Spec C N) (s3 : code_Put.Spec C N) (s4 : row_join.Spec C N) {h0 h : AHeap} {s : Sta} {p x y z out : AVal} {R R2 : List (List AVal)} {P : List (Row × (AVal × AVal))} {Q : AVal → AHeap → Prop} (hy : SlX h0 6 y (s.Lots.map Lot.cs) R) (hn : SlX h0 8 z (s.Lines.map Line.cs) R2)
  (hl : P.length + s.Lots.length + s.Lines.length ≤ 1000000) (ho : Owns h0 h (RowsO p out P)) (hq : ∀ out' P' h', P'.map (·.1) = P.map (·.1) ++ (s.Lots.map lotRow ++ s.Lines.map lineRow) → Owns h0 h' (RowsO p out' P') → Q out' h') :
  LoopR (row_All.l7 C N Q p (.fn (N 425) [] [p]) y (.int .i64 s.Lots.length) (.agg (staCs s x y z))) [.int .i64 0] h := by
 refine LoopR.intro (fun n vs hh => ∃ (k : Nat) (out : AVal) (P' : List (Row × (AVal × AVal))), k + n = s.Lots.length ∧ vs = [.int .i64 (k : Int)] ∧ P'.map (·.1) = P.map (·.1) ++ (s.Lots.take k).map lotRow ∧ Owns h0 hh (RowsO p out P')) s.Lots.length ?_ ⟨0, out, P, by simp, rfl, by simp, ho⟩
 rintro Y n vs hh ⟨k, out, P', hk, rfl, hP', ho⟩ hY
 have hPl := congrArg List.length hP'
 simp only [List.length_map, List.length_append, List.length_take] at hPl
 simp -dsimp only [row_All.l7, row_All.k6, lssN, B.pv_some]
 refine B.cond_bool (fun hc => ?_) (fun hc => ?_)
 ·rw [decide_eq_true_eq] at hc
  obtain ⟨w, hw⟩ := get_lt hc
  have hkl : k < (s.Lots.map Lot.cs).length := by simpa using hc
  have e1 : V.idxS 6 y (.int .i64 (k : Int)) = some (elp 6 y k 0) := hy.idxN hkl
  have e2 := (hy.mono ho.le).elem (get_map hw)
  have tail : ∀ (here : AVal) (b0 : AHeap) (hh : AHeap), h0.le b0 → Owns b0 hh (RowsO p out P') → Pcs b0 [here] [[bif w.Arrived then 1 else 0]] →
    row_All.k3 C N Q Y p (.fn (N 425) [] [p]) here y (.int .i64 s.Lots.length) (.int .i64 (k : Int)) (.agg (staCs s x y z)) (.agg w.cs) hh := by
   intro here b0 hh m0 ho p0
   simp -dsimp
   refine s1 w.Id 8 _ _ (by omega) fun a1 h1 o1 => ?_
   obtain ⟨b1, m1, ho1, p1⟩ := pieceAdd ho p0 o1
   simp -dsimp
   refine litPiece 1 (s := [108]) rfl rfl fun i153 h2 o2 => ?_
   refine conv_own o2 (by simp) ?_
   obtain ⟨b2, m2, ho2, p2⟩ := pieceAdd ho1 p1 o2
   generalize AVal.sl i153 0 0 1 1 1 = a2 at *
   have c1 := (p2.get 1 a1 _ rfl rfl).elim fun _ r => r.isCell
   have c2 := (p2.get 2 a2 _ rfl rfl).elim fun _ r => r.isCell
   simp -dsimp [c1, c2]
   refine litPcs 2 ho2 rfl (ys := [a2, a1]) fun i158 h3 hle3 o3 => ?_
   generalize AVal.sl i158 0 0 2 1 2 = a3 at *
   have p3 := p2.mono (AHeap.le_trans ho2.le hle3)
   refine s4 a3 [a2, a1] [[108], be w.Id 8] [] _ _ (o3.is (.sl 1 a3 ([a2, a1].map fun y => [y]) []) (by simp)) ⟨p3.2.2.1, p3.2.1, trivial⟩ (by simp) (by simp) fun key h4 o4 => ?_
   have ho4 : Owns b2 h4 (RowsO p out P' ++ [bOb false key ([[108], be w.Id 8].flatten)]) := (o3.join o4).sub ((List.sublist_append_left _ _).append_right _)
   refine s3 w.Item _ _ fun a5 h5 o5 => ?_
   obtain ⟨b5, m5, ho5, p5⟩ := pieceAdd (xs := [here]) (L := [[bif w.Arrived then 1 else 0]]) ho4 ⟨p2.1, trivial⟩ o5
   refine s1 w.From 2 _ _ (by omega) fun a6 h6 o6 => ?_
   obtain ⟨b6, m6, ho6, p6⟩ := pieceAdd ho5 p5 o6
   refine s1 w.Until 2 _ _ (by omega) fun a7 h7 o7 => ?_
   obtain ⟨b7, m7, ho7, p7⟩ := pieceAdd ho6 p6 o7
   refine s1 w.Qty 4 _ _ (by omega) fun a8 h8 o8 => ?_
   obtain ⟨b8, m8, ho8, p8⟩ := pieceAdd ho7 p7 o8
   have c0 := (p8.get 0 here _ rfl rfl).elim fun _ r => r.isCell
   have c5 := (p8.get 1 a5 _ rfl rfl).elim fun _ r => r.isCell
   have c6 := (p8.get 2 a6 _ rfl rfl).elim fun _ r => r.isCell
   have c7 := (p8.get 3 a7 _ rfl rfl).elim fun _ r => r.isCell
   have c8 := (p8.get 4 a8 _ rfl rfl).elim fun _ r => r.isCell
   simp -dsimp [c0, c5, c6, c7, c8]
   refine litPcs 5 ho8 rfl (ys := [a5, a6, a7, a8, here]) fun i182 h11 hle11 o11 => ?_
   generalize AVal.sl i182 0 0 5 1 5 = a11 at *
   have p11 := p8.mono (AHeap.le_trans ho8.le hle11)
   simp -dsimp only [B.callv_fn, List.nil_append, List.cons_append]
   refine s2 b8 h11 p out key P' _ a11 [a5, a6, a7, a8, here] [codePut w.Item, be w.From 2, be w.Until 2, be w.Qty 4, [bif w.Arrived then 1 else 0]] [] _ (o11.sub (List.sublist_append_left _ _)) (o11.is (.sl 1 a11 ([a5, a6, a7, a8, here].map fun y => [y]) []) (by simp)) ⟨p11.2.1, p11.2.2.1, p11.2.2.2.1, p11.2.2.2.2.1, p11.1, trivial⟩ (by simp) ?_ (by omega) fun out' v h12 o12 => ?_
   ·have h1 := codePut_len w.Item
    simp
    omega
   ·simp -dsimp only [add1 (show k < 4611686018427387904 by omega), B.pv_some]
    refine hY (s.Lots.length - (k + 1)) _ _ (by omega) ⟨k + 1, out', _, by omega, rfl, ?_, o12.back ?_⟩
    ·rw [List.map_append, hP', take_succ hw, List.map_append, List.append_assoc]
     simp [lotRow, lotVal]
    ·exact AHeap.le_trans m0 (AHeap.le_trans m1 (AHeap.le_trans m2 (AHeap.le_trans m5 (AHeap.le_trans m6 (AHeap.le_trans m7 m8)))))
  simp -dsimp only [row_All.k5]
  simp -dsimp [e1, e2]
  refine litPiece 1 (s := [0]) rfl rfl fun i114 h2 o2 => ?_
  generalize AVal.sl i114 0 0 1 1 1 = here at *
  have ho2 := ho.join o2
  refine B.cond_bool (fun hb => ?_) (fun hb => ?_)
  ·have hx := ho2.slAt (RowsO p out P').length endGet
   have e5 : V.idxS 1 here (.int .i64 0) = some (elp 1 here 0 0) := hx.idxN (i := 0) (by simp)
   simp -dsimp only [e5, B.pv_some]
   refine ho2.st (RowsO p out P').length endGet (i := 0) (c := bc 0) rfl (by omega) rfl fun h3 o3 _ => ?_
   rw [endSet] at o3
   obtain ⟨b0, m0, _, o4, a⟩ := o3.lay
   refine tail here b0 h3 m0 o4 ⟨⟨[], ?_⟩, trivial⟩
   rw [hb]
   exact a _ (List.mem_singleton_self _)
  ·obtain ⟨b0, m0, _, o4, a⟩ := ho2.lay
   refine tail here b0 h2 m0 o4 ⟨⟨[], ?_⟩, trivial⟩
   rw [hb]
   exact a _ (List.mem_singleton_self _)
 ·rw [decide_eq_false_iff_not] at hc
  have : k = s.Lots.length := by omega
  subst this
  rw [List.take_length] at hP'
  have l3 := hn.lenSl
  rw [List.length_map] at l3
  simp -dsimp [l3]
  refine All_lines s1 s2 s3 s4 hn (by omega) ho fun out' P2 h' e o => hq out' P2 h' ?_ o
  rw [e, hP', List.append_assoc]
theorem V.bin_sadd (a b : List UInt8) (h : a.length + b.length ≤ 140737488355328) : V.bin .add (.str a) (.str b) = some (.str (a ++ b)) := by
 simp only [V.bin, V.strOp]
 rw [if_neg]
 simp only [IntKind.max, IntKind.bits, IntKind.signed]
 simp; omega
theorem flat2M {T : Type} (f g : T → List UInt8) : ∀ l : List T, (l.flatMap fun p => [f p, g p]).flatten = l.flatMap fun p => f p ++ g p
 | [] => rfl
 | a :: l => by simp only [List.flatMap_cons, List.flatten_append, flat2M f g l]; simp
theorem flat1M {T : Type} (f : T → List UInt8) (l : List T) : (l.map f).flatten = l.flatMap f := rfl
abbrev pcsOb (v : AVal) (xs : List AVal) : Ob := .sl 1 v (xs.map fun y => [y]) []
theorem All_items (s1 : row_number.Spec C N) (s2 : row_All_1.Spec C N) (s3 : code_Put.Spec C N) (s4 : row_join.Spec C N) {h0 h : AHeap} {s : Sta} {p x y z out : AVal} {P : List (Row × (AVal × AVal))} {Q : AVal → AHeap → Prop} (ha : StaAt h0 s x y z) (hk : ∀ t ∈ s.Items, keptB t = true)
  (hl : P.length + s.Items.length + s.Lots.length + s.Lines.length ≤ 1000000) (ho : Owns h0 h (RowsO p out P)) (hq : ∀ out' P' h', P'.map (·.1) = P.map (·.1) ++ (s.Items.map itemRow ++ (s.Lots.map lotRow ++ s.Lines.map lineRow)) → Owns h0 h' (RowsO p out' P') → Q out' h') :
  LoopR (row_All.l19 C N Q p (.fn (N 425) [] [p]) x (.int .i64 s.Items.length) (.agg (staCs s x y z))) [.int .i64 0] h := by
 obtain ⟨hi, ⟨R, hy⟩, ⟨R2, hn⟩, n1, n2, n3⟩ := ha
 refine LoopR.intro (fun n vs hh => ∃ (k : Nat) (out : AVal) (P' : List (Row × (AVal × AVal))), k + n = s.Items.length ∧ vs = [.int .i64 (k : Int)] ∧ P'.map (·.1) = P.map (·.1) ++ (s.Items.take k).map itemRow ∧ Owns h0 hh (RowsO p out P')) s.Items.length ?_ ⟨0, out, P, by simp, rfl, by simp, ho⟩
 rintro Y n vs hh ⟨k, out, P', hkn, rfl, hP', ho⟩ hY
 have hPl := congrArg List.length hP'
 simp only [List.length_map, List.length_append, List.length_take] at hPl
 simp -dsimp only [row_All.l19, row_All.k18, lssN, B.pv_some]
 refine B.cond_bool (fun hc => ?_) (fun hc => ?_)
 ·rw [decide_eq_true_eq] at hc
  obtain ⟨w, hw⟩ := get_lt hc
  obtain ⟨P0, R0, eP0, s0, at0⟩ := hi
  obtain ⟨a, hq0⟩ : ∃ a, P0[k]? = some (w, a) := by
   rw [← eP0, List.getElem?_map] at hw
   obtain ⟨q, h1, h2⟩ := Option.map_eq_some_iff.1 hw
   exact ⟨q.2, by rw [h1, ← h2]⟩
  have ea := slX_el (s0.mono ho.le) (fun p hp => itemK.mono ho.le (at0 p hp)) hq0
  simp only at ea
  obtain ⟨f1, f2, f3, f4, f5⟩ := kept_facts (hk w (List.mem_of_getElem? hw))
  obtain ⟨⟨Ra, ha1⟩, ⟨Rb, ha2⟩, _⟩ : (∃ R, SlX h0 2 a.1 (w.Parts.map Part.cs) R) ∧ (∃ R, SlX h0 1 a.2 (w.Others.map tc) R) ∧ w.ok := at0 _ (List.mem_of_getElem? hq0)
  have l1 := ha1.lenSl
  have l2 := ha2.lenSl
  rw [List.length_map] at l1 l2
  have e1 : V.idxS 4 x (.int .i64 (k : Int)) = some (elp 4 x k 0) := ea.idx
  have e2 : A.ldnv hh (elp 4 x k 0) 4 = some (.agg (itemK.cells w a)) := ea.ldn
  have e3 : V.setN 0 4 (.agg (itemK.cells w a)) (.agg [.str [], .int .i64 0, .nils, .nils]) = some (.agg (itemK.cells w a)) := setN_whole itemK w a
  have u1 : IntKind.u8.wrap (w.Parts.length : Int) = ((byt w.Parts.length).toNat : Int) := u8_byt _
  have u2 : IntKind.u8.wrap (w.Others.length : Int) = ((byt w.Others.length).toNat : Int) := u8_byt _
  simp -dsimp only [row_All.k17, e1, e2, e3, B.ldn_eq, B.pv_some]
  simp -dsimp [itemK, l1, u1]
  refine s1 w.Life 2 _ _ (by omega) fun a1 h1 o1 => ?_
  obtain ⟨b1, m1, ho1, p1⟩ := pieceAdd (xs := []) (L := []) ho trivial o1
  simp -dsimp
  refine litPiece 1 (s := [byt w.Parts.length]) rfl rfl fun i59 h2 o2 => ?_
  obtain ⟨b2, m2, ho2, p2⟩ := pieceAdd ho1 p1 o2
  generalize AVal.sl i59 0 0 1 1 1 = a2 at *
  have c1 := (p2.get 0 a1 _ rfl rfl).elim fun _ r => r.isCell
  have c2 := (p2.get 1 a2 _ rfl rfl).elim fun _ r => r.isCell
  simp -dsimp [c1, c2]
  refine litPcs 2 ho2 rfl (ys := [a1, a2]) fun i60 h3 hle3 ho3 => ?_
  generalize AVal.sl i60 0 0 2 1 2 = v0 at *
  have m03 : h0.le b2 := AHeap.le_trans m1 m2
  simp -dsimp [itemK, l1]
  have ep3 : Pcs b2 [a1, a2] ([be w.Life 2, [byt w.Parts.length]] ++ (w.Parts.take 0).flatMap fun p => [codePut p.Item, be p.Qty 4]) := p2
  refine LoopR.intro (fun t vs hh => ∃ (j : Nat) (v : AVal) (xs : List AVal) (b : AHeap), j + t = w.Parts.length ∧ vs = [v, .int .i64 (j : Int)] ∧ h0.le b ∧ Owns b hh (RowsO p out P' ++ [pcsOb v xs]) ∧ Pcs b xs ([be w.Life 2, [byt w.Parts.length]] ++ (w.Parts.take j).flatMap fun p => [codePut p.Item, be p.Qty 4])) w.Parts.length ?_ ⟨0, v0, [a1, a2], b2, by omega, rfl, m03, ho3, ep3⟩
  rintro Y5 t vs h4 ⟨j, v, xs, b, hj, rfl, m4, ho4, p4⟩ hY5
  have hxl := p4.len
  have hcnt : ∀ j, (([be w.Life 2, [byt w.Parts.length]] ++ (w.Parts.take j).flatMap fun p => [codePut p.Item, be p.Qty 4]) : List (List UInt8)).length ≤ 2 + 2 * j := fun j => by
   have : ∀ l : List Part, (l.flatMap fun p => [codePut p.Item, be p.Qty 4]).length = 2 * l.length := fun l => by
    induction l with
    | nil => rfl
    | cons a l ih => rw [List.flatMap_cons, List.length_append, ih]; simp; omega
   rw [List.length_append, this, List.length_take]
   simp; omega
  simp -dsimp only [row_All.l14, row_All.k13, lssN, B.pv_some]
  refine B.cond_bool (fun hd => ?_) (fun hd => ?_)
  ·rw [decide_eq_true_eq] at hd
   obtain ⟨q, hq⟩ := get_lt hd
   have hjl : j < (w.Parts.map Part.cs).length := by simpa using hd
   have g1 : V.idxS 2 a.1 (.int .i64 (j : Int)) = some (elp 2 a.1 j 0) := ha1.idxN hjl
   have g2 := (ha1.mono (AHeap.le_trans m4 ho4.le)).elem (get_map hq)
   simp -dsimp [g1, g2]
   refine s3 q.Item _ _ fun a5 h5 o5 => ?_
   obtain ⟨b5, m5, ho5, p5⟩ := pieceAdd ho4 p4 o5
   refine s1 q.Qty 4 _ _ (by omega) fun a6 h6 o6 => ?_
   obtain ⟨b6, m6, ho6, p6⟩ := pieceAdd ho5 p5 o6
   have c5 : a5.isCell = true := (o5.slAt 0 rfl).isCell
   have c6 : a6.isCell = true := (o6.slAt 0 rfl).isCell
   simp -dsimp [c5, c6]
   have := hcnt j
   refine appLit (ys := [a5, a6]) ho6 rfl (by simp; omega) fun v' h7 ho7 => ?_
   simp -dsimp only [add1 (show j < 4611686018427387904 by omega), B.pv_some]
   refine hY5 (t - 1) _ _ (by omega) ⟨j + 1, v', xs ++ [a5, a6], b6, by omega, rfl, AHeap.le_trans m4 (AHeap.le_trans m5 m6), ho7, ?_⟩
   rw [take_succ hq, List.flatMap_append]
   simpa using p6
  ·rw [decide_eq_false_iff_not] at hd
   have : j = w.Parts.length := by omega
   subst this
   rw [List.take_length] at p4
   have hc0 := hcnt w.Parts.length
   rw [List.take_length] at hc0
   generalize hL : ([be w.Life 2, [byt w.Parts.length]] ++ w.Parts.flatMap fun p => [codePut p.Item, be p.Qty 4] : List (List UInt8)) = L0 at *
   have hxl := p4.len
   simp -dsimp [l2, u2]
   refine litPiece 1 (s := [byt w.Others.length]) rfl rfl fun i83 h5 o5 => ?_
   obtain ⟨b5, m5, ho5, p5⟩ := pieceAdd ho4 p4 o5
   generalize AVal.sl i83 0 0 1 1 1 = a3 at *
   have c3 : a3.isCell = true := (o5.slAt 0 rfl).isCell
   simp -dsimp [c3]
   refine appLit (ys := [a3]) ho5 rfl (by simp; omega) fun v1 h6 ho6 => ?_
   simp -dsimp [l2]
   refine LoopR.intro (fun t vs hh => ∃ (j : Nat) (v : AVal) (xs : List AVal) (b : AHeap), j + t = w.Others.length ∧ vs = [v, .int .i64 (j : Int)] ∧ h0.le b ∧ Owns b hh (RowsO p out P' ++ [pcsOb v xs]) ∧ Pcs b xs (L0 ++ [[byt w.Others.length]] ++ (w.Others.take j).map codePut)) w.Others.length ?_ ⟨0, v1, xs ++ [a3], b5, by omega, rfl, AHeap.le_trans m4 m5, ho6, by simpa using p5⟩
   rintro Y6 t2 vs h7 ⟨j, v, xs, b, hj2, rfl, m7, ho7, p7⟩ hY6
   have hxl := p7.len
   simp only [List.length_append, List.length_map, List.length_take, List.length_cons, List.length_nil] at hxl
   simp -dsimp only [row_All.l10, row_All.k9, lssN, B.pv_some]
   refine B.cond_bool (fun he => ?_) (fun he => ?_)
   ·rw [decide_eq_true_eq] at he
    obtain ⟨q, hq⟩ := get_lt he
    have hjl : j < (w.Others.map tc).length := by simpa using he
    have g1 : V.idxS 1 a.2 (.int .i64 (j : Int)) = some (elp 1 a.2 j 0) := ha2.idxN hjl
    have g2 : A.ldv h7 (elp 1 a.2 j 0) = some (.str q) := (ha2.mono (AHeap.le_trans m7 ho7.le)).cell (get_map hq)
    simp -dsimp only [g1, g2, B.ld_eq, B.pv_some]
    refine s3 q _ _ fun a5 h8 o8 => ?_
    obtain ⟨b8, m8, ho8, p8⟩ := pieceAdd ho7 p7 o8
    have c5 : a5.isCell = true := (o8.slAt 0 rfl).isCell
    simp -dsimp [c5]
    refine appLit (ys := [a5]) ho8 rfl (by simp; omega) fun v' h9 ho9 => ?_
    simp -dsimp only [add1 (show j < 4611686018427387904 by omega), B.pv_some]
    refine hY6 (t2 - 1) _ _ (by omega) ⟨j + 1, v', xs ++ [a5], b8, by omega, rfl, AHeap.le_trans m7 m8, ho9, ?_⟩
    rw [take_succ hq, List.map_append, ← List.append_assoc]
    exact p8
   ·rw [decide_eq_false_iff_not] at he
    have : j = w.Others.length := by omega
    subst this
    rw [List.take_length] at p7
    have ef : (L0 ++ [[byt w.Others.length]] ++ w.Others.map codePut).flatten = itemVal w := by
     rw [← hL]
     simp only [List.flatten_append, flat2M, flat1M, itemVal]
     simp
    have g1 := flatMap_len (f := fun p : Part => codePut p.Item ++ be p.Qty 4) (m := 17) (fun p => by have := codePut_len p.Item; simp; omega) w.Parts
    have g2 := flatMap_len (f := codePut) (m := 13) codePut_len w.Others
    have el : (itemVal w).length ≤ 1000 := by
     unfold itemVal
     simp only [List.length_append, List.length_cons, be_len]
     omega
    have fc : (105 :: w.Code).length ≤ far := by
     have : w.Code.length ≤ 12 := by
      unfold codeRight at f4
      simp only [Bool.and_eq_true, decide_eq_true_eq] at f4
      exact f4.1.2
     unfold far; simp; omega
    have es : V.bin .add (.str [105]) (.str w.Code) = some (.str (105 :: w.Code)) := V.bin_sadd [105] w.Code (by unfold far at fc; simp at fc ⊢; omega)
    simp -dsimp [es]
    refine strBytes_own (s := 105 :: w.Code) fc fun key h8 o8 => ?_
    have ho8 : Owns b h8 (RowsO p out P' ++ [bOb false key (105 :: w.Code)]) := (ho7.join o8).sub ((List.sublist_append_left _ _).append_right _)
    have hv8 : SlX h8 1 v (xs.map fun y => [y]) [] := (ho7.join o8).is (pcsOb v xs) (by simp)
    simp -dsimp only [B.callv_fn, List.nil_append, List.cons_append]
    refine s2 b h8 p out key P' _ v xs _ [] _ ho8 hv8 (p7.mono ho8.le) (by simp; omega) (by rw [ef]; omega) (by omega) fun out' u h9 o9 => ?_
    simp -dsimp only [add1 (show k < 4611686018427387904 by omega), B.pv_some]
    rw [ef] at o9
    refine hY (n - 1) _ _ (by omega) ⟨k + 1, out', _, by omega, rfl, ?_, o9.back m7⟩
    rw [List.map_append, hP', take_succ hw, List.map_append, List.append_assoc]
    rfl
 ·rw [decide_eq_false_iff_not] at hc
  have : k = s.Items.length := by omega
  subst this
  rw [List.take_length] at hP'
  have l2 := hy.lenSl
  rw [List.length_map] at l2
  simp -dsimp [l2]
  refine All_lots s1 s2 s3 s4 hy hn (by omega) ho fun out' P2 h' e o => hq out' P2 h' ?_ o
  rw [e, hP', List.append_assoc]
def row_All.Spec (C : CSem) (N : Nat → Nat) : Prop := ∀ (s : Sta) (x y z : AVal) (h : AHeap) (Q : AVal → AHeap → Prop), StaAt h s x y z → s.Items.length + s.Lots.length + s.Lines.length ≤ 100000 →
 (∀ x' P h', P.map (·.1) = allRows s → Df rowK h h' x' P → Q x' h') → C (N 412) [.agg (staCs s x y z)] h Q
theorem row_All.spec (i : row_All.Imp C N) (s0 : row_plain.Spec C N) (s1 : row_number.Spec C N) (s2 : row_All_1.Spec C N) (s3 : code_Put.Spec C N) (s4 : row_join.Spec C N) : row_All.Spec C N := by
 intro s x y z h Q ha hlen hq
 have hx := ha.items.isCell
 have hy : y.isCell = true := ha.lots.elim fun _ r => r.isCell
 have hz : z.isCell = true := ha.lines.elim fun _ r => r.isCell
 have l1 := ha.items.lenSl
 apply i
 simp -dsimp
 refine s0 s x y z h _ ha ?_
 simp -dsimp
 refine B.cond_bool (fun hb => ?_) (fun hb => ?_)
 ·have hb : plainB s = false := by simpa using hb
  refine dn_same (hq .nils [] h (by unfold allRows; rw [hb]; rfl) (by simpa [Df, DK.os] using (Owns.start h).nils rowK.n))
 ·have hb : plainB s = true := by simpa using hb
  intro i3 hi3
  have o0 := ((Owns.start h).newBox hi3 [.nils]).nils 2
  generalize upd h i3 (blkOf [.nils]) = h1 at *
  generalize hp : AVal.ptr i3 0 0 = p at *
  have o0 : Owns h h1 (RowsO p .nils []) := o0
  simp -dsimp
  refine litPiece 4 (s := [42, 100, 97, 121]) rfl rfl fun i22 h2 o2 => ?_
  refine conv_own o2 (by simp) ?_
  generalize AVal.sl i22 0 0 4 1 4 = k1 at *
  have o3 : Owns h h2 (RowsO p .nils [] ++ [bOb false k1 [42, 100, 97, 121]]) := o0.join o2
  simp -dsimp
  refine numPut (j := 2) s1 s2 o3 (by omega) (by simp) fun out1 v1 h3 o4 => ?_
  simp -dsimp
  refine litPiece 5 (s := [42, 108, 105, 110, 101]) rfl rfl fun i30 h4 o5 => ?_
  refine conv_own o5 (by simp) ?_
  generalize AVal.sl i30 0 0 5 1 5 = k2 at *
  have o6 := o4.join o5
  simp -dsimp
  refine numPut (j := 8) s1 s2 o6 (by omega) (by simp) fun out2 v2 h5 o7 => ?_
  simp -dsimp
  refine litPiece 4 (s := [42, 108, 111, 116]) rfl rfl fun i38 h6 o8 => ?_
  refine conv_own o8 (by simp) ?_
  generalize AVal.sl i38 0 0 4 1 4 = k3 at *
  have o9 := o7.join o8
  simp -dsimp
  refine numPut (j := 8) s1 s2 o9 (by omega) (by simp) fun out3 v3 h7 o10 => ?_
  simp -dsimp [l1]
  have hk : ∀ t ∈ s.Items, keptB t = true := by
   unfold plainB itemsB at hb
   simp only [Bool.and_eq_true] at hb
   exact ordB_all hb.2.1
  refine All_items s1 s2 s3 s4 ha hk (by simp; omega) o10 fun out' P' h8 e o => dn_same (hq out' P' h8 ?_ (o.sub (List.sublist_cons_self _ _)))
  rw [e]
  unfold allRows
  rw [hb]
  rfl
def staZero : Sta := ⟨0, 0, 0, [], [], []⟩
def stRow (x : Row) (s : Sta) : Sta × Bool :=
 if x.Key = [42, 100, 97, 121] then ({ s with Now := (rNum x.Value 2 ⟨0, false⟩).1 }, (rNum x.Value 2 ⟨0, false⟩).2.bad)
 else if x.Key = [42, 108, 111, 116] then ({ s with NextLot := (rNum x.Value 8 ⟨0, false⟩).1 }, (rNum x.Value 8 ⟨0, false⟩).2.bad)
 else if x.Key = [42, 108, 105, 110, 101] then ({ s with NextLine := (rNum x.Value 8 ⟨0, false⟩).1 }, (rNum x.Value 8 ⟨0, false⟩).2.bad)
 else if x.Key.head? = some 105 then ({ s with Items := s.Items ++ [(rItem x.Value (x.Key.drop 1) ⟨0, false⟩).1] }, (rItem x.Value (x.Key.drop 1) ⟨0, false⟩).2.bad)
 else if x.Key.head? = some 108 then ({ s with Lots := s.Lots ++ [(rRowLot x.Value (rNum (x.Key.drop 1) 8 ⟨0, false⟩).1 ⟨0, false⟩).1] }, (rRowLot x.Value (rNum (x.Key.drop 1) 8 ⟨0, false⟩).1 ⟨0, false⟩).2.bad || (rNum (x.Key.drop 1) 8 ⟨0, false⟩).2.bad)
 else if x.Key.head? = some 111 then ({ s with Lines := s.Lines ++ [(rRowLine x.Value (rNum (x.Key.drop 1) 8 ⟨0, false⟩).1 ⟨0, false⟩).1] }, (rRowLine x.Value (rNum (x.Key.drop 1) 8 ⟨0, false⟩).1 ⟨0, false⟩).2.bad || (rNum (x.Key.drop 1) 8 ⟨0, false⟩).2.bad)
 else (s, true)
def outB (p : Option Row) (x : Row) : Bool := (match p with | some q => decide (0 ≤ cmpB q.Key x.Key) | none => false) || decide (x.Key = [])
def stRows : List Row → Option Row → Sta → List Row → Option (Sta × List Row)
 | [], _, s, m => some (s, m)
 | x :: l, p, s, m => if outB p x = true then none else if x.Key.head? = some 97 then stRows l (some x) s m else if (stRow x s).2 = true then none else stRows l (some x) (stRow x s).1 (m ++ [x])
def stEnd : Option (Sta × List Row) → Sta × Int
 | some (s, m) => if allRows s = m ∧ m ≠ [] then (s, 0) else (staZero, 4)
 | none => (staZero, 4)
def stateOf (l : List Row) : Sta × Int := stEnd (stRows l none staZero [])
def row_State_1.Spec (C : CSem) (N : Nat → Nat) : Prop := SameE rowK C (N 430)
theorem row_State_1.spec (i : row_State_1.Imp C N) (s1 : bytes_Equal.Spec C N) : row_State_1.Spec C N := by
 intro t u a b h Q ha hb hq
 obtain ⟨a1, a2⟩ : Bs h a.1 t.Key ∧ Bs h a.2 t.Value := ha
 obtain ⟨b1, b2⟩ : Bs h b.1 u.Key ∧ Bs h b.2 u.Value := hb
 apply i
 simp -dsimp [rowK]
 refine s1 _ _ _ _ _ _ a1 b1 ?_
 simp +contextual -dsimp
 refine B.gdb_call (v := .bool (decide (t.Value = u.Value))) (fun _ Q hq => s1 _ _ _ _ _ _ a2 b2 hq) ?_
 simp -dsimp
 refine dn_same ?_
 have : decide (t = u) = (decide (t.Key = u.Key) && decide (t.Value = u.Value)) := by
  cases t; cases u; simp [Row.mk.injEq]
 rw [this] at hq
 exact hq
def slices_EqualFunc_api_Row_api_Row_api_Row_api_Row.Spec (C : CSem) (N : Nat → Nat) : Prop := ∀ (x y : AVal) (L M : List Row) (h : AHeap) (Q : AVal → AHeap → Prop), Dl rowK h x L → Dl rowK h y M → L.length < 4611686018427387904 → Q (.bool (decide (L = M))) h → C (N 431) [x, y, .fn (N 430) [] []] h Q
theorem slices_EqualFunc_api_Row_api_Row_api_Row_api_Row.spec (i : slices_EqualFunc_api_Row_api_Row_api_Row_api_Row.Imp C N) (s1 : row_State_1.Spec C N) : slices_EqualFunc_api_Row_api_Row_api_Row_api_Row.Spec C N := by
 intro x y L M h Q hx hy hlen hq
 have hlx := hx.lenSl
 have hly := hy.lenSl
 apply i
 simp -dsimp [hlx, hly]
 refine B.cond_bool (fun hb => ?_) (fun hb => ?_) <;> simp -dsimp at hb ⊢
 ·rw [decide_eq_false fun e => hb (by rw [e])] at hq
  exact dn_same hq
 ·simp -dsimp only [hlx, B.pv_some]
  refine LoopR.intro (fun n vs hh => ∃ k : Nat, k + n = L.length ∧ vs = [.int .i64 (k : Int)] ∧ hh = h ∧ L.take k = M.take k) L.length ?_ ⟨0, by simp, rfl, rfl, by simp⟩
  rintro Y n vs hh ⟨k, hn, rfl, rfl, he⟩ hY
  simp -dsimp only [slices_EqualFunc_api_Row_api_Row_api_Row_api_Row.l2, slices_EqualFunc_api_Row_api_Row_api_Row_api_Row.k1, lssN, B.pv_some]
  refine B.cond_bool (fun hc => ?_) (fun hc => ?_)
  ·rw [decide_eq_true_eq] at hc
   obtain ⟨w, hw⟩ := get_lt hc
   obtain ⟨u, hu⟩ := get_lt (L := M) (k := k) (by omega)
   obtain ⟨a, ea⟩ := hx.get hw
   obtain ⟨b, eb⟩ := hy.get hu
   have e1 : V.idxS 2 x (.int .i64 (k : Int)) = some (elp 2 x k 0) := ea.idx
   have e2 : A.ldnv hh (elp 2 x k 0) 2 = some (.agg (rowK.cells w a)) := ea.ldn
   have e3 : V.idxS 2 y (.int .i64 (k : Int)) = some (elp 2 y k 0) := eb.idx
   have e4 : A.ldnv hh (elp 2 y k 0) 2 = some (.agg (rowK.cells u b)) := eb.ldn
   have f1 : V.setN 0 2 (.agg (rowK.cells w a)) (.agg [.nils, .nils]) = some (.agg (rowK.cells w a)) := setN_whole rowK w a
   have f2 : V.setN 0 2 (.agg (rowK.cells u b)) (.agg [.nils, .nils]) = some (.agg (rowK.cells u b)) := setN_whole rowK u b
   have f3 : V.fieldN 0 2 (.agg (rowK.cells w a)) = some (.agg (rowK.cells w a)) := fieldN_whole rowK w a
   have f4 : V.fieldN 0 2 (.agg (rowK.cells u b)) = some (.agg (rowK.cells u b)) := fieldN_whole rowK u b
   simp -dsimp only [e1, e2, e3, e4, f1, f2, f3, f4, B.pv_some, B.ldn_eq, B.callv_fn, List.nil_append, List.append_nil]
   refine s1 _ _ _ _ _ _ ea.at_ eb.at_ ?_
   simp -dsimp only [V.un_not, B.pv_some]
   refine B.cond_bool (fun hd => ?_) (fun hd => ?_) <;> simp -dsimp at hd
   ·rw [decide_eq_false fun e => by subst e; rw [hw] at hu; cases hu; exact hd rfl] at hq
    exact dn_same hq
   ·simp -dsimp only [add1 (show k < 4611686018427387904 by omega), B.pv_some]
    refine hY (L.length - (k + 1)) _ _ (by omega) ⟨k + 1, by omega, rfl, rfl, ?_⟩
    rw [take_succ hw, take_succ hu, he, hd]
  ·rw [decide_eq_false_iff_not] at hc
   rw [List.take_of_length_le (by omega), List.take_of_length_le (by omega)] at he
   rw [decide_eq_true he] at hq
   exact dn_same hq
abbrev StaO (s : Sta) (x : AVal) (P : List (Itm × (AVal × AVal))) (y z : AVal) : List Ob := .sl 4 x (P.map itemK.cs) [] :: .sl 6 y (s.Lots.map Lot.cs) [] :: .sl 8 z (s.Lines.map Line.cs) [] :: itemK.os false P
structure StaN (s : Sta) (k : Nat) : Prop where
 n : s.Items.length + s.Lots.length + s.Lines.length ≤ k
 ok : ∀ t ∈ s.Items, t.ok
theorem StaO.at {h0 h : AHeap} {s : Sta} {x y z : AVal} {P : List (Itm × (AVal × AVal))} {l : List Ob} (ho : Owns h0 h l) (hl : ∀ o ∈ StaO s x P y z, o ∈ l) (e : P.map (·.1) = s.Items) {k : Nat} (hn : StaN s k) (hk : k ≤ 100000000) : StaAt h s x y z := by
 obtain ⟨n, ok⟩ := hn
 refine ⟨?_, ⟨[], ho.is (.sl 6 y (s.Lots.map Lot.cs) []) (hl _ (by simp))⟩, ⟨[], ho.is (.sl 8 z (s.Lines.map Line.cs) []) (hl _ (by simp))⟩, by omega, by omega, by omega⟩
 rw [← e]
 refine dl_of (K := itemK) (b := false) (l := l) (R := []) (fun p hp => ok _ (by rw [← e]; exact List.mem_map.2 ⟨p, hp, rfl⟩)) ho.is (hl _ (List.mem_cons_self ..)) fun o hm => hl _ ?_
 simp only [StaO, List.mem_cons]
 exact .inr (.inr (.inr hm))
theorem itemVal_len {t : Itm} (h1 : t.Parts.length ≤ 8) (h2 : t.Others.length ≤ 4) : (itemVal t).length ≤ 192 := by
 have g1 := flatMap_len (f := fun p : Part => codePut p.Item ++ be p.Qty 4) (m := 17) (fun p => by have := codePut_len p.Item; simp; omega) t.Parts
 have g2 := flatMap_len (f := codePut) (m := 13) codePut_len t.Others
 unfold itemVal
 simp only [List.length_append, List.length_cons, be_len]
 omega
theorem allRows_small {s : Sta} : ∀ r ∈ allRows s, 1 ≤ r.Key.length ∧ r.Key.length ≤ 13 ∧ r.Key.length + r.Value.length ≤ 205 := by
 unfold allRows
 cases hb : plainB s with
 | false => simp
 | true =>
  unfold plainB itemsB at hb
  simp only [Bool.and_eq_true] at hb
  intro r hr
  simp only [cond_true, staRows, headRows, List.cons_append, List.nil_append, List.mem_cons, List.mem_append, List.mem_map] at hr
  rcases hr with rfl | rfl | rfl | ⟨t, ht, rfl⟩ | ⟨t, _, rfl⟩ | ⟨t, _, rfl⟩
  ·simp
  ·simp
  ·simp
  ·obtain ⟨k1, k2, k3, k4, k5⟩ := kept_facts (ordB_all hb.2.1 t ht)
   have := codeRight_len k4
   have := itemVal_len k1 k2
   simp only [itemRow, List.length_cons]
   omega
  ·have := codePut_len t.Item
   simp [lotRow, lotVal]
   omega
  ·have := codePut_len t.Item
   have := codePut_len t.Code
   simp [lineRow, lineVal]
   omega
theorem allRows_ok {s : Sta} : ∀ r ∈ allRows s, rowK.ok r := fun r hr => by
 have := allRows_small r hr
 show r.Key.length ≤ far ∧ r.Value.length ≤ far
 unfold far
 omega
theorem permE {S : List Ob} {a b : Ob} : ((S ++ [a]) ++ [b]).Perm ((S ++ [b]) ++ [a]) := by
 rw [List.append_assoc, List.append_assoc]
 exact List.Perm.append_left S (List.Perm.swap ..)
theorem permI {U V : List Ob} {a b : Ob} : (U ++ [a] ++ (V ++ [b])).Perm (U ++ V ++ [b] ++ [a]) := by
 have h : (U ++ ([a] ++ (V ++ [b]))).Perm (U ++ ((V ++ [b]) ++ [a])) := List.Perm.append_left U List.perm_append_comm
 simpa only [List.append_assoc] using h
theorem rList_cnt {T : Type} (one : Rdr → T × Rdr) (n : Int) (r : Rdr) (h : n ≤ 255) : (rList one n.toNat r).1.length ≤ few := by
 have := rList_len one n.toNat r
 unfold few
 omega
theorem rItem_ok (b c : List UInt8) (r : Rdr) : (rItem b c r).1.ok := ⟨rList_cnt _ _ _ (rNum_1 _ _).2, rList_cnt _ _ _ (rNum_1 _ _).2⟩
def row_State.Spec (C : CSem) (N : Nat → Nat) : Prop := ∀ (x : AVal) (L : List Row) (h : AHeap) (Q : AVal → AHeap → Prop), Dl rowK h x L → L.length ≤ 100000 →
 (∀ x' P y' z' h', P.map (·.1) = (stateOf L).1.Items → StaN (stateOf L).1 L.length → Owns h h' (StaO (stateOf L).1 x' P y' z') → Q (.tup [.agg (staCs (stateOf L).1 x' y' z'), .int .i64 (stateOf L).2]) h') → C (N 413) [x] h Q
theorem V.cutStr1 (s : List UInt8) : s ≠ [] → V.cutStr (.str s) (some (.int .i64 1)) none = some (.str (s.drop 1)) := fun h => by
 have : 1 ≤ s.length := List.length_pos_iff.2 h
 simp [V.cutStr, V.ends, V.endsC, V.asNat, this]
def prevR (L : List Row) (k : Nat) : Option Row := if k = 0 then none else L[k - 1]?
theorem row_State.spec (i : row_State.Imp C N) (s1 : bytes_Compare.Spec C N) (s2 : row_reader_number.Spec C N) (s3 : row_reader_item.Spec C N) (s4 : row_reader_lot.Spec C N) (s5 : row_reader_line.Spec C N) (s6 : row_All.Spec C N) (s7 : slices_EqualFunc_api_Row_api_Row_api_Row_api_Row.Spec C N) : row_State.Spec C N := by
 intro x L h Q hx hlen hq
 apply i
 have hlx := hx.lenSl
 simp -dsimp only [row_State.cps, row_State.k10, hlx, B.pv_some]
 have o0 : Owns h h (.sl 2 .nils [] [] :: StaO staZero .nils [] .nils .nils) := (((Owns.start h).nils 2).nils 4).nils 6 |>.nils 8
 refine LoopR.intro (fun n vs hh => ∃ (k : Nat) (mine : AVal) (M : List (Row × (AVal × AVal))) (s : Sta) (X : AVal) (P : List (Itm × (AVal × AVal))) (Y Z : AVal), k + n = L.length ∧ vs = [mine, .int .i64 (k : Int), .agg [.int .i64 0, .int .i64 0, .int .i64 0, .nils, .nils, .nils], .agg (staCs s X Y Z)] ∧ P.map (·.1) = s.Items ∧ StaN s k ∧ M.length ≤ k ∧ (∀ q ∈ M, rowK.at_ h q.1 q.2) ∧
   Owns h hh (.sl 2 mine (M.map rowK.cs) [] :: StaO s X P Y Z) ∧ stRows (L.drop k) (prevR L k) s (M.map (·.1)) = stRows L none staZero []) L.length ?_ ⟨0, .nils, [], staZero, .nils, [], .nils, .nils, by simp, rfl, rfl, ⟨by simp [staZero], by simp [staZero]⟩, by simp, by simp, o0, rfl⟩
 rintro Y n vs hh ⟨k, mine, M, s, X, P, Ys, Z, hk, rfl, hP, hN, hM, hat, ho, hst⟩ hY
 have zero : ∀ h', h.le h' → stateOf L = (staZero, 4) → dn Q (.tup [.agg [.int .i64 0, .int .i64 0, .int .i64 0, .nils, .nils, .nils], .int .i64 4]) h' := fun h' hle e => by
  rw [e] at hq
  exact dn_le hle (hq .nils [] .nils .nils h rfl ⟨by simp [staZero], by simp [staZero]⟩ (((Owns.start h).nils 4).nils 6 |>.nils 8))
 simp -dsimp only [row_State.l9, lssN, B.pv_some]
 refine B.cond_bool (fun hc => ?_) (fun hc => ?_)
 ·rw [decide_eq_true_eq] at hc
  obtain ⟨w, hw⟩ := get_lt hc
  have hxx := hx.mono ho.le
  obtain ⟨P0, R0, eP0, sx, at0⟩ := id hx
  obtain ⟨⟨kx, vx⟩, hq0⟩ : ∃ a, P0[k]? = some (w, a) := by
   rw [← eP0, List.getElem?_map] at hw
   obtain ⟨q, h1, h2⟩ := Option.map_eq_some_iff.1 hw
   exact ⟨q.2, by rw [h1, ← h2]⟩
  have ea := slX_el (sx.mono ho.le) (fun p hp => rowK.mono ho.le (at0 p hp)) hq0
  have e1 : V.idxS 2 x (.int .i64 (k : Int)) = some (elp 2 x k 0) := ea.idx
  have e2 : A.ldnv hh (elp 2 x k 0) 2 = some (.agg [kx, vx]) := ea.ldn
  obtain ⟨d1, d2⟩ : Bs h kx w.Key ∧ Bs h vx w.Value := at0 _ (List.mem_of_getElem? hq0)
  have a1 := d1.mono ho.le
  have cv := d2.isCell
  have hd : L.drop k = w :: L.drop (k + 1) := by
   rw [List.drop_eq_getElem_cons hc]
   congr 1
   rw [List.getElem?_eq_getElem hc] at hw
   exact Option.some.inj hw
  have hprev : prevR L (k + 1) = some w := by unfold prevR; simpa using hw
  rw [hd, stRows] at hst
  have no : outB (prevR L k) w = true → dn Q (.tup [.agg [.int .i64 0, .int .i64 0, .int .i64 0, .nils, .nils, .nils], .int .i64 4]) hh := fun e => zero hh ho.le (by
   unfold stateOf; rw [← hst, if_pos e]; rfl)
  have go : outB (prevR L k) w = false → row_State.k6 C N (dn Q) Y x mine x (.int .i64 (L.length : Int)) (.int .i64 (k : Int)) (.agg [.int .i64 0, .int .i64 0, .int .i64 0, .nils, .nils, .nils]) (.agg (staCs s X Ys Z)) (.agg [kx, vx]) hh := by
   intro e
   rw [if_neg (by rw [e]; exact Bool.false_ne_true)] at hst
   obtain ⟨c, r, hkey⟩ : ∃ c r, w.Key = c :: r := by
    cases hh : w.Key with
    | nil => unfold outB at e; rw [hh] at e; simp at e
    | cons c r => exact ⟨c, r, rfl⟩
   obtain ⟨Rk, b0⟩ := d1.1
   have b1 := b0.mono ho.le
   have g1 : V.idxS 1 kx (.int .i64 0) = some (elp 1 kx 0 0) := b1.idxN (i := 0) (by rw [hkey]; simp)
   have g2 : A.ldv hh (elp 1 kx 0 0) = some (.int .u8 (c.toNat : Int)) := b1.cell (by rw [hkey]; rfl)
   simp -dsimp [g1, g2]
   refine B.cond_bool (fun hb => ?_) (fun hb => ?_)
   ·have hb : (c.toNat : Int) = 97 := by simpa using hb
    have hc97 : w.Key.head? = some 97 := by
     rw [hkey]
     have h1 : c.toNat = 97 := by omega
     have : c = 97 := UInt8.toNat_inj.1 h1
     rw [this]; rfl
    rw [if_pos hc97] at hst
    simp -dsimp only [add1 (show k < 4611686018427387904 by omega), B.pv_some]
    exact hY (L.length - (k + 1)) _ _ (by omega) ⟨k + 1, mine, M, s, X, P, Ys, Z, by omega, rfl, hP, ⟨by have := hN.n; omega, hN.ok⟩, by omega, hat, ho, by rw [hprev]; exact hst⟩
   ·have hb : ¬ (c.toNat : Int) = 97 := by simpa using hb
    have hc97 : ¬ w.Key.head? = some 97 := by
     rw [hkey]
     intro e
     have e : c = 97 := Option.some.inj e
     rw [e] at hb
     exact hb rfl
    rw [if_neg hc97] at hst
    simp -dsimp only [row_State.k5]
    simp -dsimp
    refine ho.push 0 rfl (cs := [kx, vx]) rfl (by omega) (by simp; omega) (by simp [maxLen]; omega) fun mine' h2 o2 _ => ?_
    obtain ⟨kt, Rt, t1, t2, _⟩ := b0.sliceIn (by omega) (lo := 1) (hi := w.Key.length) (a := some (.int .i64 1)) (b := none) (.inr ⟨_, rfl⟩) (.inl ⟨rfl, rfl⟩) (by rw [hkey]; simp) (by omega)
    rw [List.take_length] at t2
    have ct := t2.isCell
    simp -dsimp [cv, t1, ct]
    intro i52 h52
    have o3 := o2.newBox h52 [vx, .bool false]
    generalize upd h2 i52 (blkOf [vx, .bool false]) = h3 at *
    simp -dsimp
    intro i57 h57
    have o4 := o3.newBox h57 [kt, .bool false]
    generalize upd h3 i57 (blkOf [kt, .bool false]) = h4 at *
    have o4 : Owns h h4 (((.sl 2 mine' ((M ++ [(w, (kx, vx))]).map rowK.cs) [] :: StaO s X P Ys Z) ++ [.box (.ptr i52 0 0) [vx, .bool false]]) ++ [.box (.ptr i57 0 0) [kt, .bool false]]) := by
     rw [List.map_append]; exact o4
    have after : ∀ (s' : Sta) (X' : AVal) (P' : List (Itm × (AVal × AVal))) (Y' Z' u1 u2 : AVal) (b1 b2 : Bool) (h' : AHeap), Owns h h' (((.sl 2 mine' ((M ++ [(w, (kx, vx))]).map rowK.cs) [] :: StaO s' X' P' Y' Z') ++ [.box (.ptr i52 0 0) [u1, .bool b1]]) ++ [.box (.ptr i57 0 0) [u2, .bool b2]]) →
      stRow w s = (s', b1 || b2) → P'.map (·.1) = s'.Items → StaN s' (k + 1) → row_State.k2 C N (dn Q) Y x mine' (.ptr i52 0 0) (.ptr i57 0 0) x (.int .i64 (L.length : Int)) (.int .i64 (k : Int)) (.agg [.int .i64 0, .int .i64 0, .int .i64 0, .nils, .nils, .nils]) (.agg (staCs s' X' Y' Z')) h' := by
     intro s' X' P' Y' Z' u1 u2 b1 b2 h' o' er eP hN'
     obtain ⟨_, e, w1⟩ := (o'.perm permE).boxAt _ endGet
     cases e
     obtain ⟨_, e, w2⟩ := o'.boxAt _ endGet
     cases e
     simp +contextual -dsimp [ldv_at w1, ldv_at w2]
     rw [er] at hst
     refine B.cond_bool (fun hb => ?_) (fun hb => ?_)
     ·have hbb : (b1 || b2) = true := by cases b1 <;> cases b2 <;> simp at hb ⊢
      simp -dsimp
      refine zero h' o'.le ?_
      unfold stateOf
      rw [← hst, if_pos hbb]; rfl
     ·have hbb : ¬ (b1 || b2) = true := by cases b1 <;> cases b2 <;> simp at hb ⊢
      rw [if_neg hbb] at hst
      simp -dsimp only [add1 (show k < 4611686018427387904 by omega), B.pv_some]
      refine hY (L.length - (k + 1)) _ _ (by omega) ⟨k + 1, mine', M ++ [(w, (kx, vx))], s', X', P', Y', Z', by omega, rfl, eP, hN', by simp; omega, ?_, o'.sub (by rw [List.append_assoc]; exact List.sublist_append_left _ _), ?_⟩
      ·intro q hq
       rcases List.mem_append.1 hq with hq | hq
       ·exact hat q hq
       ·rw [List.mem_singleton.1 hq]; exact ⟨d1, d2⟩
      ·rw [hprev, List.map_append]; exact hst
    have hkl : w.Key.length ≤ far := d1.2
    have hvl : w.Value.length ≤ far := d2.2
    unfold far at hkl hvl
    have rv : RwL h h h4 ((.sl 2 mine' ((M ++ [(w, (kx, vx))]).map rowK.cs) [] :: StaO s X P Ys Z) ++ [.box (.ptr i57 0 0) [kt, .bool false]]) (.ptr i52 0 0) w.Value ⟨0, false⟩ := by
     obtain ⟨Rv, hv⟩ := d2.1
     exact ⟨vx, Rv, hv, o4.perm permE, AHeap.le_refl h, Nat.zero_le _, by omega⟩
    have ri : RwL h h h4 ((.sl 2 mine' ((M ++ [(w, (kx, vx))]).map rowK.cs) [] :: StaO s X P Ys Z) ++ [.box (.ptr i52 0 0) [vx, .bool false]]) (.ptr i57 0 0) (w.Key.drop 1) ⟨0, false⟩ :=
     ⟨kt, Rt, t2, o4, AHeap.le_refl h, Nat.zero_le _, by simp; omega⟩
    have es := fun K => bytesStr_bc (b0.mono o4.le) K
    have ei : V.idxStr (.str w.Key) (.int .i64 0) = some (.int .u8 (c.toNat : Int)) := idxStr_at (k := 0) (by rw [hkey]; rfl)
    have ec := V.cutStr1 w.Key (by rw [hkey]; exact List.cons_ne_nil _ _)
    have hN1 : StaN s (k + 1) := ⟨by have := hN.n; omega, hN.ok⟩
    simp -dsimp only [row_State.k3, B.al_agg, V.field1_agg, List.getElem?_cons_zero, B.pv_some, es, V.bin_seql]
    refine B.cond_bool (fun hk1 => ?_) (fun hk1 => ?_)
    ·rw [decide_eq_true_eq] at hk1
     refine s2 _ _ _ _ _ _ _ 2 _ rv (by omega) fun h5 r5 => ?_
     obtain ⟨u, _, _, o5, _⟩ := r5
     simp -dsimp
     exact after { s with Now := (rNum w.Value 2 ⟨0, false⟩).1 } X P Ys Z u kt _ false h5 (o5.perm permE) (by unfold stRow; rw [if_pos hk1, Bool.or_false]) hP ⟨hN1.n, hN1.ok⟩
    rw [decide_eq_false_iff_not] at hk1
    simp -dsimp only [B.pv_some, V.bin_seql]
    refine B.cond_bool (fun hk2 => ?_) (fun hk2 => ?_)
    ·rw [decide_eq_true_eq] at hk2
     refine s2 _ _ _ _ _ _ _ 8 _ rv (by omega) fun h5 r5 => ?_
     obtain ⟨u, _, _, o5, _⟩ := r5
     simp -dsimp
     exact after { s with NextLot := (rNum w.Value 8 ⟨0, false⟩).1 } X P Ys Z u kt _ false h5 (o5.perm permE) (by unfold stRow; rw [if_neg hk1, if_pos hk2, Bool.or_false]) hP ⟨hN1.n, hN1.ok⟩
    rw [decide_eq_false_iff_not] at hk2
    simp -dsimp only [B.pv_some, V.bin_seql]
    refine B.cond_bool (fun hk3 => ?_) (fun hk3 => ?_)
    ·rw [decide_eq_true_eq] at hk3
     refine s2 _ _ _ _ _ _ _ 8 _ rv (by omega) fun h5 r5 => ?_
     obtain ⟨u, _, _, o5, _⟩ := r5
     simp -dsimp
     exact after { s with NextLine := (rNum w.Value 8 ⟨0, false⟩).1 } X P Ys Z u kt _ false h5 (o5.perm permE) (by unfold stRow; rw [if_neg hk1, if_neg hk2, if_pos hk3, Bool.or_false]) hP ⟨hN1.n, hN1.ok⟩
    rw [decide_eq_false_iff_not] at hk3
    have hd0 : w.Key.head? = some c := by rw [hkey]; rfl
    have toc : ∀ n : Nat, n < 256 → ((c.toNat : Int) = n ↔ w.Key.head? = some (UInt8.ofNat n)) := fun n hn => by
     rw [hd0]
     constructor
     ·intro e
      have e : c.toNat = n := by omega
      rw [← e]; simp
     ·intro e
      have e : c = UInt8.ofNat n := Option.some.inj e
      rw [e]; simp; omega
    simp -dsimp only [ei, B.pv_some, V.bin_eql]
    refine B.cond_bool (fun hk4 => ?_) (fun hk4 => ?_)
    ·rw [decide_eq_true_eq] at hk4
     have hk4 : w.Key.head? = some 105 := (toc 105 (by omega)).1 hk4
     simp -dsimp [ec, - List.drop_one]
     obtain ⟨q1, q2⟩ := (o4.perm permE).out
     obtain ⟨Rv, hv⟩ := d2.1
     refine s3 h _ h4 _ w.Value (w.Key.drop 1) ⟨0, false⟩ _ ⟨vx, Rv, hv, q2, q1.le, Nat.zero_le _, by omega⟩ fun a h5 r5 => ?_
     obtain ⟨u, _, _, o5, _⟩ := r5
     have o6 := q1.join o5
     have hf := fill_agg itemK (rItem w.Value (w.Key.drop 1) ⟨0, false⟩).1 a
     simp -dsimp only [show fillL [(0, some 4, AVal.agg (itemK.cells (rItem w.Value (w.Key.drop 1) ⟨0, false⟩).1 a))] (repL 1 [.str [], .int .i64 0, .nils, .nils]) = some (itemK.cells (rItem w.Value (w.Key.drop 1) ⟨0, false⟩).1 a) from hf]
     have hPl : P.length ≤ k := by have := hN.n; rw [← hP, List.length_map] at this; omega
     refine o6.push 1 rfl (itemK.len _ a) (by decide) (by simp; omega) (by simp [maxLen]; omega) fun X' h6 o7 _ => ?_
     have cX : X'.isCell = true := (o7.slAt 1 rfl).isCell
     simp -dsimp [cX]
     refine after { s with Items := s.Items ++ [(rItem w.Value (w.Key.drop 1) ⟨0, false⟩).1] } X' (P ++ [((rItem w.Value (w.Key.drop 1) ⟨0, false⟩).1, a)]) Ys Z u kt (rItem w.Value (w.Key.drop 1) ⟨0, false⟩).2.bad false h6 (o7.perm ?_) (by unfold stRow; rw [if_neg hk1, if_neg hk2, if_neg hk3, if_pos hk4, Bool.or_false]) (by rw [List.map_append, hP]; rfl) ⟨by simp; have := hN.n; omega, fun t ht => ?_⟩
     ·unfold StaO
      rw [DK.os_append, DK.os_one]
      simp only [List.map_append, List.map_cons, List.map_nil]
      exact (((permI.cons _).cons _).cons _).cons _
     ·rcases List.mem_append.1 ht with ht | ht
      ·exact hN.ok t ht
      ·rw [List.mem_singleton.1 ht]; exact rItem_ok _ _ _
    rw [decide_eq_false_iff_not] at hk4
    have hk4 : ¬ w.Key.head? = some 105 := fun e => hk4 ((toc 105 (by omega)).2 e)
    simp -dsimp only [ei, B.pv_some, V.bin_eql]
    refine B.cond_bool (fun hk5 => ?_) (fun hk5 => ?_)
    ·rw [decide_eq_true_eq] at hk5
     have hk5 : w.Key.head? = some 108 := (toc 108 (by omega)).1 hk5
     simp -dsimp [- List.drop_one]
     refine s2 _ _ _ _ _ _ _ 8 _ ri (by omega) fun h5 r5 => ?_
     obtain ⟨u2, _, _, o5, _⟩ := r5
     obtain ⟨Rv, hv⟩ := d2.1
     refine s4 h h h5 _ _ w.Value _ ⟨0, false⟩ _ ⟨vx, Rv, hv, o5.perm permE, AHeap.le_refl h, Nat.zero_le _, by omega⟩ fun h6 r6 => ?_
     obtain ⟨u, _, _, o6, _⟩ := r6
     simp -dsimp [- List.drop_one]
     refine (o6.perm permE).push 2 rfl rfl (by decide) (by simp; have := hN.n; omega) (by simp [maxLen]; have := hN.n; omega) fun X' h7 o7 _ => ?_
     have cX : X'.isCell = true := (o7.slAt 2 rfl).isCell
     simp -dsimp [cX, - List.drop_one]
     refine after { s with Lots := s.Lots ++ [(rRowLot w.Value (rNum (w.Key.drop 1) 8 ⟨0, false⟩).1 ⟨0, false⟩).1] } X P X' Z u u2 _ _ h7 (o7.perm ?_) (by unfold stRow; rw [if_neg hk1, if_neg hk2, if_neg hk3, if_neg hk4, if_pos hk5]) hP ⟨by simp; have := hN.n; omega, hN1.ok⟩
     unfold StaO
     simp only [List.map_append, List.map_cons, List.map_nil]
     exact List.Perm.refl _
    rw [decide_eq_false_iff_not] at hk5
    have hk5 : ¬ w.Key.head? = some 108 := fun e => hk5 ((toc 108 (by omega)).2 e)
    simp -dsimp only [ei, B.pv_some, V.bin_eql]
    refine B.cond_bool (fun hk6 => ?_) (fun hk6 => ?_)
    ·rw [decide_eq_true_eq] at hk6
     have hk6 : w.Key.head? = some 111 := (toc 111 (by omega)).1 hk6
     simp -dsimp [- List.drop_one]
     refine s2 _ _ _ _ _ _ _ 8 _ ri (by omega) fun h5 r5 => ?_
     obtain ⟨u2, _, _, o5, _⟩ := r5
     obtain ⟨Rv, hv⟩ := d2.1
     refine s5 h h h5 _ _ w.Value _ ⟨0, false⟩ _ ⟨vx, Rv, hv, o5.perm permE, AHeap.le_refl h, Nat.zero_le _, by omega⟩ fun h6 r6 => ?_
     obtain ⟨u, _, _, o6, _⟩ := r6
     simp -dsimp [- List.drop_one]
     refine (o6.perm permE).push 3 rfl rfl (by decide) (by simp; have := hN.n; omega) (by simp [maxLen]; have := hN.n; omega) fun X' h7 o7 _ => ?_
     have cX : X'.isCell = true := (o7.slAt 3 rfl).isCell
     simp -dsimp [cX, - List.drop_one]
     refine after { s with Lines := s.Lines ++ [(rRowLine w.Value (rNum (w.Key.drop 1) 8 ⟨0, false⟩).1 ⟨0, false⟩).1] } X P Ys X' u u2 _ _ h7 (o7.perm ?_) (by unfold stRow; rw [if_neg hk1, if_neg hk2, if_neg hk3, if_neg hk4, if_neg hk5, if_pos hk6]) hP ⟨by simp; have := hN.n; omega, hN1.ok⟩
     unfold StaO
     simp only [List.map_append, List.map_cons, List.map_nil]
     exact List.Perm.refl _
    rw [decide_eq_false_iff_not] at hk6
    have hk6 : ¬ w.Key.head? = some 111 := fun e => hk6 ((toc 111 (by omega)).2 e)
    simp -dsimp only [B.nilCheck_ptr, V.fieldAddr_ptr, B.pv_some, Nat.zero_add]
    have o4' := o4.perm permE
    refine o4'.boxSt _ endGet rfl (by simp) fun h5 o5 _ => ?_
    rw [endSet] at o5
    exact after s X P Ys Z vx kt true false h5 (o5.perm permE) (by unfold stRow; rw [if_neg hk1, if_neg hk2, if_neg hk3, if_neg hk4, if_neg hk5, if_neg hk6]; rfl) hP hN1
  simp -dsimp only [row_State.k8, e1, e2, B.ldn_eq, B.pv_some]
  by_cases h0 : k = 0
  ·subst h0
   simp -dsimp [a1.lenSl, lenZ, - row_State.k6]
   refine B.cond_bool (fun hb => ?_) (fun hb => ?_)
   ·simp -dsimp
    exact no (by unfold outB prevR; simpa using hb)
   ·exact go (by unfold outB prevR; simpa using hb)
  ·obtain ⟨u, hu⟩ := get_lt (L := L) (k := k - 1) (by omega)
   obtain ⟨kp, vp, f1, f2, f3, f4, f5, f6, c1, c2⟩ := row_get hxx hu
   have sk := sub1 (a := k) (by omega) (by omega)
   have hk0 : 0 < k := by omega
   have hpv : prevR L k = some u := by unfold prevR; rw [if_neg h0]; exact hu
   simp -dsimp [sk, f1, f3, f5, hk0, - V.bin_sub, - row_State.k6]
   refine s1 _ _ _ _ _ _ c1 a1 ?_
   simp +contextual -dsimp [a1.lenSl, lenZ, - row_State.k6]
   refine B.cond_bool (fun hb => ?_) (fun hb => ?_)
   ·simp -dsimp
    refine no ?_
    unfold outB
    rw [hpv]
    simpa using hb
   ·refine go ?_
    unfold outB
    rw [hpv]
    simpa using hb
 ·rw [decide_eq_false_iff_not] at hc
  have : k = L.length := by omega
  subst this
  rw [List.drop_length, stRows] at hst
  have ha : StaAt hh s X Ys Z := StaO.at ho (fun o hm => List.mem_cons_of_mem _ hm) hP hN (by omega)
  have cx := ha.items.isCell
  have cy : Ys.isCell = true := ha.lots.elim fun _ r => r.isCell
  have cz : Z.isCell = true := ha.lines.elim fun _ r => r.isCell
  simp -dsimp
  refine s6 s X Ys Z hh _ ha (by have := hN.n; omega) fun x' P' h1 eP o1 => ?_
  have dx : Dl rowK h1 x' (allRows s) := by
   rw [← eP]
   exact Df.dl o1 fun p hp => allRows_ok _ (by rw [← eP]; exact List.mem_map.2 ⟨p, hp, rfl⟩)
  have dm : Dl rowK h1 mine (M.map (·.1)) := ⟨M, [], rfl, (ho.slAt 0 rfl).mono o1.le, fun q hq => rowK.mono (AHeap.le_trans ho.le o1.le) (hat q hq)⟩
  have hal : (allRows s).length < 4611686018427387904 := by
   unfold allRows
   cases plainB s <;> simp [staRows, headRows]
   have := hN.n
   omega
  refine s7 x' mine _ _ h1 _ dx dm hal ?_
  have lm := dm.lenSl
  have hle : h.le h1 := AHeap.le_trans ho.le o1.le
  simp +contextual -dsimp [lm, - List.length_map]
  refine B.cond_bool (fun hb => ?_) (fun hb => ?_)
  ·simp -dsimp
   refine zero h1 hle ?_
   unfold stateOf
   rw [← hst]
   show (if allRows s = M.map (·.1) ∧ M.map (·.1) ≠ [] then _ else _) = _
   rw [if_neg]
   intro e
   simp [e.1] at hb
   exact e.2 (by rw [hb]; rfl)
  ·simp -dsimp
   have e : stateOf L = (s, 0) := by
    unfold stateOf
    rw [← hst]
    show (if allRows s = M.map (·.1) ∧ M.map (·.1) ≠ [] then _ else _) = _
    rw [if_pos]
    simp only [Bool.or_eq_false_iff, Bool.not_eq_false', decide_eq_true_eq, decide_eq_false_iff_not] at hb
    exact ⟨hb.1, fun e => hb.2 (List.map_eq_nil_iff.1 e)⟩
   rw [e] at hq
   exact dn_le o1.le (hq X P Ys Z hh hP hN (ho.sub (List.sublist_cons_self _ _)))
def keyBad (s r k : Int) : Bool := ((((decide (s < 0) || decide (4 ≤ s)) || decide (r < 1)) || decide (4611686018427387904 < r)) || decide (k < 0)) || decide (1000 ≤ k)
def keyP (s r k : Int) : List UInt8 := bif keyBad s r k then [] else 97 :: byt s :: (be r 8 ++ be k 2)
def pieceN (b : List UInt8) : Nat := (b.length + 179) / 180
def pieceI (b : List UInt8) (i : Nat) : List UInt8 := (b.drop (180 * i)).take 180
def pieceRow (s r : Int) (b : List UInt8) (i : Nat) : Row := ⟨keyP s r i, pieceI b i⟩
def ansRows (s r : Int) (t : TellP) : List Row × Int := if (tellPut t).2 ≠ 0 ∨ keyP s r 0 = [] then ([], 2) else ((List.range (pieceN (tellPut t).1)).map (pieceRow s r (tellPut t).1), 0)
def mineB (s r : Int) (x : Row) : Bool := decide (x.Key.length = 12) && decide (x.Key.take 10 = (keyP s r 0).take 10)
def wholeB (s r : Int) (b : List UInt8) (n : Nat) (x : Row) : Bool := ((decide (x.Key = keyP s r n) && decide (b.length = n * 180)) && decide (0 < x.Value.length)) && decide (x.Value.length ≤ 180)
def ansFold (s r : Int) : List Row → List UInt8 → Nat → Bool → List UInt8 × Bool
 | [], b, _, w => (b, w)
 | x :: l, b, n, w => if mineB s r x = true then ansFold s r l (b ++ x.Value) (n + 1) (w && wholeB s r b n x) else ansFold s r l b n w
def ansEnd (q : List UInt8 × Bool) : TellP × Bool := if q.2 = true ∧ (tellGet q.1).2.2 = 0 ∧ (tellGet q.1).2.1 = q.1.length then ((tellGet q.1).1, true) else (tellZero, false)
def answered (s r : Int) (l : List Row) : TellP × Bool := if keyP s r 0 = [] then (tellZero, false) else ansEnd (ansFold s r l [] 0 true)
theorem eqSl_no {h : AHeap} {es : Nat} {x : AVal} {L R : List (List AVal)} (hx : SlX h es x L R) (hL : L ≠ []) : V.eqSl .eql x .nils = some (.bool false) := by
 rcases hx.at_ with ⟨e, _⟩ | ⟨id, g, off, cp, b, hi, h1, _⟩
 ·exact absurd e hL
 ·subst h1; rfl
def row_Key.Spec (C : CSem) (N : Nat → Nat) : Prop := ∀ (s r k : Int) (h : AHeap) (Q : AVal → AHeap → Prop), (∀ x' h', Owns h h' [bOb false x' (keyP s r k)] → (keyP s r k = [] → x' = .nils) → Q x' h') → C (N 427) [.int .i64 s, .int .i64 r, .int .i64 k] h Q
theorem keyP_len {s r k : Int} (h : keyBad s r k = false) : (keyP s r k).length = 12 := by simp [keyP, h]
theorem row_Key.spec (i : row_Key.Imp C N) (s1 : row_number.Spec C N) (s2 : row_join.Spec C N) : row_Key.Spec C N := by
 intro s r k h Q hq
 apply i
 simp +contextual -dsimp
 have eb : (((((decide (s < 0) || decide (4 ≤ s)) || decide (r < 1)) || decide (4611686018427387904 < r)) || decide (k < 0)) || decide (1000 ≤ k)) = keyBad s r k := rfl
 try rw [eb]
 refine B.cond_bool (fun hb => ?_) (fun hb => ?_)
 ·have e : keyP s r k = [] := by unfold keyP; rw [hb]; rfl
  rw [e] at hq
  exact dn_same (hq .nils h ((Owns.start h).nils 1) fun _ => rfl)
 ·have e : keyP s r k = 97 :: byt s :: (be r 8 ++ be k 2) := by unfold keyP; rw [hb]; rfl
  simp -dsimp [u8_byt]
  refine litPiece 2 (s := [97, byt s]) rfl rfl fun i31 h1 o1 => ?_
  obtain ⟨b1, m1, ho1, p1⟩ := pieceAdd (xs := []) (L := []) (Owns.start h) trivial o1
  generalize AVal.sl i31 0 0 2 1 2 = a1 at *
  refine s1 r 8 _ _ (by omega) fun a2 h2 o2 => ?_
  obtain ⟨b2, m2, ho2, p2⟩ := pieceAdd ho1 p1 o2
  refine s1 k 2 _ _ (by omega) fun a3 h3 o3 => ?_
  obtain ⟨b3, m3, ho3, p3⟩ := pieceAdd ho2 p2 o3
  have c1 := (p3.get 0 a1 _ rfl rfl).elim fun _ r => r.isCell
  have c2 := (p3.get 1 a2 _ rfl rfl).elim fun _ r => r.isCell
  have c3 := (p3.get 2 a3 _ rfl rfl).elim fun _ r => r.isCell
  simp -dsimp [c1, c2, c3]
  refine litPcs 3 ho3 rfl (ys := [a1, a2, a3]) fun i36 h4 hle4 o4 => ?_
  generalize AVal.sl i36 0 0 3 1 3 = a4 at *
  refine s2 a4 [a1, a2, a3] [[97, byt s], be r 8, be k 2] [] _ _ (o4.is (.sl 1 a4 ([a1, a2, a3].map fun y => [y]) []) (by simp)) (p3.mono (AHeap.le_trans ho3.le hle4)) (by simp) (by simp) fun x' h5 o5 => dn_same (hq x' h5 ?_ ?_)
  ·rw [e]
   have : ([[97, byt s], be r 8, be k 2] : List (List UInt8)).flatten = 97 :: byt s :: (be r 8 ++ be k 2) := by simp
   rw [this] at o5
   exact o5.back (AHeap.le_trans m1 (AHeap.le_trans m2 (AHeap.le_trans m3 o4.le)))
  ·rw [e]; simp
def bytes_Clone.Spec (C : CSem) (N : Nat → Nat) : Prop := ∀ (x : AVal) (s : List UInt8) (h : AHeap) (Q : AVal → AHeap → Prop), Bs h x s → (∀ x' h', Owns h h' [bOb false x' s] → Q x' h') → C (N 428) [x] h Q
theorem bytes_Clone.spec (i : bytes_Clone.Imp C N) : bytes_Clone.Spec C N := by
 intro x s h Q hx hq
 apply i
 obtain ⟨⟨R, hx⟩, hs⟩ := hx
 have cp : B.appW h 1 1 .sz x (fun v7 h => dn Q v7 h) := by
  refine Owns.appW ((Owns.start h).sz 1) 0 rfl hx (by omega) (by simp; unfold far at hs; omega) (by simp [maxLen]; unfold far at hs; omega) fun x' h' h1 _ => dn_same (hq x' h' ?_)
  simpa [bOb] using h1
 simp -dsimp only [bytes_Clone.cps]
 rcases hx.at_ with ⟨e1, e2, rfl | rfl⟩ | ⟨id, g, off, cp', b, hi, rfl, h3⟩
 ·simp -dsimp [V.eqSl]
  have e1 : s = [] := List.map_eq_nil_iff.1 e1
  rw [e1] at hq
  exact dn_same (hq _ _ ((Owns.start h).nils 1))
 ·simp -dsimp [V.eqSl]
  exact cp
 ·simp -dsimp [V.eqSl]
  rw [List.length_map] at cp
  exact cp
def bytes_HasPrefix.Spec (C : CSem) (N : Nat → Nat) : Prop := ∀ (x y : AVal) (a b : List UInt8) (h : AHeap) (Q : AVal → AHeap → Prop), Bs h x a → Bs h y b → Q (.bool (decide (a.take b.length = b))) h → C (N 436) [x, y] h Q
theorem bytes_HasPrefix.spec (i : bytes_HasPrefix.Imp C N) (s1 : bytes_Equal.Spec C N) : bytes_HasPrefix.Spec C N := by
 intro x y a b h Q hx hy hq
 apply i
 have lx := hx.lenSl
 have ly := hy.lenSl
 by_cases hl : b.length ≤ a.length
 ·obtain ⟨⟨R, hx1⟩, ha⟩ := hx
  obtain ⟨z, R', e1, e2, _⟩ := hx1.sliceIn (by omega) (lo := 0) (hi := b.length) (a := none) (b := some (.int .i64 (b.length : Int))) (.inl ⟨rfl, rfl⟩) (.inr ⟨_, rfl⟩) (by omega) hl
  rw [List.drop_zero] at e2
  simp +contextual -dsimp [lx, ly, hl, e1]
  refine s1 z y _ b h _ ⟨⟨R', e2⟩, by simp; unfold far at *; omega⟩ hy ?_
  simp -dsimp
  exact dn_same hq
 ·simp +contextual -dsimp [lx, ly, hl]
  have : decide (a.take b.length = b) = false := decide_eq_false fun e => by
   have := congrArg List.length e
   simp at this
   omega
  rw [this] at hq
  exact dn_same hq
theorem SlX.cut3m {h : AHeap} {es : Nat} {x : AVal} {L R : List (List AVal)} (hs : SlX h es x L R) {lo hi : Nat} {j1 j2 j3 : IntKind} (h1 : lo < hi) (h2 : hi ≤ L.length) :
  ∃ x', V.cut3 es x (.int j1 (lo : Int)) (.int j2 (hi : Int)) (.int j3 (hi : Int)) = some x' ∧ SlX h es x' ((L.take hi).drop lo) [] := by
 rcases hs.at_ with ⟨e, e', e''⟩ | ⟨id, g, off, cp, bk, hh, k1, k1', k2, k3, k4, k5, k6⟩
 ·subst e; simp at h2; omega
 ·subst k1
  refine ⟨.sl id g (off + lo * es) (hi - lo) es 0, ?_, ⟨fun p hp => hs.len p (List.mem_append_left _ (List.mem_of_mem_take (List.mem_of_mem_drop (by simpa using hp)))), .inr ⟨id, g, off + lo * es, 0, bk, hh, ?_, ?_, k2, k3, ?_, k5, ?_⟩⟩⟩
  ·simp only [V.cut3, V.asNat]
   rw [if_pos (by omega), if_pos (by omega)]
   simp only [Int.toNat_natCast]
   rw [if_pos ⟨by omega, Nat.le_refl _, by omega, trivial⟩, if_neg (by omega)]
   simp
  ·simp [Nat.min_eq_left h2]
  ·simp [Nat.min_eq_left h2]
  ·have h3 : lo * es + (hi - lo) * es = hi * es := by rw [← Nat.add_mul]; congr 1; omega
   have h4 : hi * es ≤ (L.length + R.length) * es := Nat.mul_le_mul_right _ (by omega)
   simp only [List.length_drop, List.length_take, Nat.min_eq_left h2, List.length_nil, Nat.add_zero]
   omega
  ·have h3 : lo * es + (hi - lo) * es = hi * es := by rw [← Nat.add_mul]; congr 1; omega
   have h4 : hi * es ≤ (L.length + R.length) * es := Nat.mul_le_mul_right _ (by omega)
   simp only [List.length_drop, List.length_take, Nat.min_eq_left h2, List.length_nil, Nat.add_zero, List.append_nil]
   have e1 : ((L.take hi).drop lo).flatten = ((L ++ R).flatten.take (hi * es)).drop (lo * es) := by
    rw [flat_drop (fun p hp => hs.len p (List.mem_append_left _ (List.mem_of_mem_take hp))), flat_take (fun p hp => hs.len p (List.mem_append_left _ hp)), ← List.take_append_of_le_length (l₂ := R.flatten) (by rw [flat_len (fun p hp => hs.len p (List.mem_append_left _ hp))]; exact Nat.mul_le_mul_right _ h2), ← List.flatten_append]
   rw [e1, ← k6, List.take_take, Nat.min_eq_left h4, ← List.drop_drop]
   rw [List.drop_take, ← h3, Nat.add_sub_cancel_left]
def pieceEnd (b : List UInt8) (i : Nat) : Nat := min (180 * i + 180) b.length
def pieceV (v : AVal) (b : List UInt8) (i : Nat) : AVal := (V.cut3 1 v (.int .i64 ((180 * i : Nat) : Int)) (.int .i64 (pieceEnd b i : Int)) (.int .i64 (pieceEnd b i : Int))).getD .nils
theorem pieceN_lt {b : List UInt8} {i : Nat} : i < pieceN b ↔ 180 * i < b.length := by unfold pieceN; omega
theorem pieceV_at {h : AHeap} {v : AVal} {b : List UInt8} {R : List (List AVal)} (hv : SlX h 1 v (b.map bc) R) {i : Nat} (hi : i < pieceN b) :
  V.cut3 1 v (.int .i64 ((180 * i : Nat) : Int)) (.int .i64 (pieceEnd b i : Int)) (.int .i64 (pieceEnd b i : Int)) = some (pieceV v b i) ∧ SlX h 1 (pieceV v b i) ((pieceI b i).map bc) [] := by
 rw [pieceN_lt] at hi
 obtain ⟨x', e1, e2⟩ := hv.cut3m (lo := 180 * i) (hi := pieceEnd b i) (j1 := .i64) (j2 := .i64) (j3 := .i64) (by unfold pieceEnd; omega) (by rw [List.length_map]; unfold pieceEnd; omega)
 have e3 : pieceV v b i = x' := by unfold pieceV; rw [e1]; rfl
 refine ⟨by rw [e3]; exact e1, ?_⟩
 rw [e3]
 have e4 : ((b.map bc).take (pieceEnd b i)).drop (180 * i) = (pieceI b i).map bc := by
  unfold pieceI pieceEnd
  rw [← List.map_take, ← List.map_drop, List.drop_take]
  congr 1
  by_cases hh : 180 * i + 180 ≤ b.length
  ·rw [Nat.min_eq_left hh]; congr 1; omega
  ·rw [Nat.min_eq_right (by omega), List.take_of_length_le (by simp), List.take_of_length_le (by simp; omega)]
 rw [← e4]; exact e2
def piecesX (v : AVal) (b : List UInt8) : List (List AVal) := (List.range (pieceN b)).map fun i => [pieceV v b i]
theorem slices_Chunk_byte_byte_1.iter (hC : CMono C) (i : slices_Chunk_byte_byte_1.Imp C N) {p q v : AVal} {b : List UInt8} {R : List (List AVal)} (hl : b.length ≤ 100000000) : Iter C (N 443) [] [p, q] (fun h => A.ldv h p = some v ∧ A.ldv h q = some (.int .i64 180) ∧ SlX h 1 v (b.map bc) R) (piecesX v b) := by
 intro id I Z h Q hD hr h0 hend hZ
 refine i (.yld id) p q h Q ?_
 have pl : (piecesX v b).length = pieceN b := by simp [piecesX]
 simp -dsimp only [slices_Chunk_byte_byte_1.cps]
 refine LoopR.intro (fun t vs hh => ∃ k : Nat, k + t = pieceN b ∧ vs = [.int .i64 ((180 * k : Nat) : Int)] ∧ I k hh) (pieceN b) ?_ ⟨0, by omega, rfl, h0⟩
 rintro Y t vs hh ⟨k, hkt, rfl, hI⟩ hY
 obtain ⟨d1, d2, d3⟩ := hD k hh hI
 have el := d3.lenSl
 rw [List.length_map] at el
 simp -dsimp only [slices_Chunk_byte_byte_1.l2, slices_Chunk_byte_byte_1.k1, B.ld_eq, d1, d2, el, lssN, B.pv_some]
 refine B.cond_bool (fun hb => ?_) (fun hb => ?_)
 ·rw [decide_eq_true_eq] at hb
  have hk : k < pieceN b := pieceN_lt.2 hb
  obtain ⟨w, R2, f2, f3, _⟩ := d3.sliceIn (by omega) (lo := 180 * k) (hi := b.length) (a := some (.int .i64 ((180 * k : Nat) : Int))) (b := none) (.inr ⟨_, rfl⟩) (.inl ⟨rfl, rfl⟩) (by omega) (by omega)
  have lw := f3.lenSl
  rw [List.take_length, List.length_map, List.length_drop] at lw
  obtain ⟨g1, g2⟩ := pieceV_at d3 hk
  have em : V.min2 (.int .i64 180) (.int .i64 ((b.length - 180 * k : Nat) : Int)) = some (.int .i64 ((pieceEnd b k - 180 * k : Nat) : Int)) := by
   rw [V.min2_int]; congr 2; unfold pieceEnd; omega
  have ea : V.bin .add (.int .i64 ((180 * k : Nat) : Int)) (.int .i64 ((pieceEnd b k - 180 * k : Nat) : Int)) = some (.int .i64 (pieceEnd b k : Int)) := by
   rw [addNN (by unfold pieceEnd; omega)]; congr 3; unfold pieceEnd; omega
  have en : V.bin .add (.int .i64 ((180 * k : Nat) : Int)) (.int .i64 180) = some (.int .i64 ((180 * (k + 1) : Nat) : Int)) := by
   have := addNN (a := 180 * k) (b := 180) (by omega)
   rw [show ((180 : Nat) : Int) = 180 from rfl] at this
   rw [this]; congr 3
  simp -dsimp only [B.ld_eq, d1, d2, f2, lw, em, ea, g1, B.pv_some, B.callv_yld]
  refine hC _ _ _ _ _ (fun v h' hv => ?_) (hr k _ hh (by unfold piecesX; rw [List.getElem?_map, List.getElem?_range hk]; rfl) hI)
  rcases hv with ⟨e, h1⟩ | ⟨e, h1⟩
  ·obtain ⟨c1, c2, c3⟩ := hD (k + 1) h' h1
   simp -dsimp only [e, V.un_not, Bool.not_true, B.cond_false, B.ld_eq, c2, en, B.pv_some]
   exact hY (t - 1) _ _ (by omega) ⟨k + 1, by omega, rfl, h1⟩
  ·simp -dsimp only [e, V.un_not, Bool.not_false, B.cond_true, B.pv_some]
   exact dn_same (hZ h' h1)
 ·rw [decide_eq_false_iff_not] at hb
  have : ¬ k < pieceN b := fun h => hb (pieceN_lt.1 h)
  have : k = pieceN b := by omega
  exact dn_same (hend hh (by rw [pl, ← this]; exact hI))
def slices_Chunk_byte_byte.Spec (C : CSem) (N : Nat → Nat) : Prop := ∀ (v : AVal) (h : AHeap) (Q : AVal → AHeap → Prop), v.isCell = true → (∀ i j h', Owns h h' [.box (.ptr i 0 0) [v], .box (.ptr j 0 0) [.int .i64 180]] → Q (.fn (N 443) [] [.ptr i 0 0, .ptr j 0 0]) h') → C (N 429) [v, .int .i64 180] h Q
theorem slices_Chunk_byte_byte.spec (i : slices_Chunk_byte_byte.Imp C N) : slices_Chunk_byte_byte.Spec C N := by
 intro v h Q hv hq
 apply i
 simp -dsimp [slices_Chunk_byte_byte.cps, hv]
 intro i2 h2
 have o1 := (Owns.start h).newBox h2 [v]
 generalize upd h i2 (blkOf [v]) = h1 at *
 simp -dsimp
 intro i3 h3
 have o2 := o1.newBox h3 [.int .i64 180]
 obtain ⟨_, e, hb⟩ := o2.boxAt 1 rfl
 cases e
 simp -dsimp [ldv_at hb]
 exact dn_same (hq _ _ _ o2)
theorem tellPut_len (t : TellP) : (tellPut t).1.length ≤ 100000 := by
 unfold tellPut
 split
 ·simp
 ·rename_i h
  have hr : tellRight t = true := by cases h' : tellRight t <;> simp_all
  split
  ·simp
  ·rename_i h2
   obtain ⟨_, _, h3⟩ := tellRight_facts hr
   obtain ⟨_, h4, h5, _⟩ := h3 h2
   have a1 := lots_len t.Lots t.Lots.length h4
   have a2 := uses_len t.Uses t.Uses.length h5
   rw [List.take_length] at a1 a2
   have a3 := codePut_len t.Code
   simp only [tellBytes, List.length_append, be_len, List.length_cons, List.length_nil]
   omega
def row_Answer.Spec (C : CSem) (N : Nat → Nat) : Prop := ∀ (s r : Int) (t : TellP) (x y : AVal) (h : AHeap) (Q : AVal → AHeap → Prop), TellAt h t x y → t.Lots.length ≤ 100000000 → t.Uses.length ≤ 100000000 →
 (∀ x' P h', P.map (·.1) = (ansRows s r t).1 → Df rowK h h' x' P → Q (.tup [x', .int .i64 (ansRows s r t).2]) h') → C (N 415) [.int .i64 s, .int .i64 r, .agg (t.cs x y)] h Q
theorem row_Answer.spec (i : row_Answer.Imp C N) (hC : CMono C) (s1 : tell_Put.Spec C N) (s2 : row_Key.Spec C N) (s3 : slices_Chunk_byte_byte.Spec C N) (i4 : slices_Chunk_byte_byte_1.Imp C N) (s5 : bytes_Clone.Spec C N) : row_Answer.Spec C N := by
 intro s r t x y h Q ht hl1 hl2 hq
 have cx := ht.lots.elim fun _ r => r.isCell
 have cy := ht.uses.elim fun _ r => r.isCell
 apply i
 simp -dsimp
 intro i3 h3
 have o1 := (Owns.start h).newBox h3 [.int .i64 s]
 generalize upd h i3 (blkOf [.int .i64 s]) = h1 at *
 simp -dsimp
 intro i4' h4
 have o2 := o1.newBox h4 [.int .i64 r]
 generalize upd h1 i4' (blkOf [.int .i64 r]) = h2 at *
 simp -dsimp
 refine s1 t x y h2 _ (ht.mono o2.le) hl1 hl2 fun v h5 o3 => ?_
 have o4 := o2.join o3
 obtain ⟨_, e, b3⟩ := o4.boxAt 0 rfl
 cases e
 obtain ⟨_, e, b4⟩ := o4.boxAt 1 rfl
 cases e
 simp -dsimp
 have bad : ∀ h', h.le h' → ansRows s r t = ([], 2) → dn Q (.tup [.nils, .int .i64 2]) h' := fun h' hle e => by
  rw [e] at hq
  exact dn_le hle (hq .nils [] h rfl (by simpa [Df, DK.os] using (Owns.start h).nils rowK.n))
 by_cases he : (tellPut t).2 = 0
 ·simp -dsimp [he, ldv_at b3, ldv_at b4]
  refine s2 s r 0 h5 _ fun k0 h6 o5 hk => ?_
  have o6 := o4.join o5
  by_cases hkn : keyP s r 0 = []
  ·rw [hk hkn]
   simp -dsimp [V.eqSl]
   exact bad h6 o6.le (by unfold ansRows; rw [if_pos (.inr hkn)])
  ·have hno := eqSl_no (o5.slAt 0 rfl : SlX h6 1 k0 ((keyP s r 0).map bc) []) (by simpa using hkn)
   simp -dsimp [hno, he]
   intro i10 h10
   have o7 := (o6.newBox h10 [.nils]).nils 2
   generalize upd h6 i10 (blkOf [.nils]) = h7 at *
   have hv : v.isCell = true := (o3.slAt 0 rfl).isCell
   simp -dsimp
   refine s3 v h7 _ hv fun i2 j2 h8 o8 => ?_
   have o9 := o7.join o8
   have o10 : Owns h h8 (RowsO (.ptr i10 0 0) .nils [] ++ ([.box (.ptr i3 0 0) [.int .i64 s], .box (.ptr i4' 0 0) [.int .i64 r], .sl 1 v ((tellPut t).1.map bc) [], bOb false k0 (keyP s r 0)] ++ [.box (.ptr i2 0 0) [v], .box (.ptr j2 0 0) [.int .i64 180]])) := by
    have o9 : Owns h h8 (([.box (.ptr i3 0 0) [.int .i64 s], .box (.ptr i4' 0 0) [.int .i64 r], .sl 1 v ((tellPut t).1.map bc) [], bOb false k0 (keyP s r 0)] ++ RowsO (.ptr i10 0 0) .nils []) ++ [.box (.ptr i2 0 0) [v], .box (.ptr j2 0 0) [.int .i64 180]]) := o9
    rw [← List.append_assoc]
    exact o9.perm (List.perm_append_comm.append_right _)
   obtain ⟨hb, m1, m2, o11, at1⟩ := o10.lay
   obtain ⟨_, e, c3⟩ := at1 (.box (.ptr i3 0 0) [.int .i64 s]) (by simp)
   cases e
   obtain ⟨_, e, c4⟩ := at1 (.box (.ptr i4' 0 0) [.int .i64 r]) (by simp)
   cases e
   obtain ⟨_, e, c2⟩ := at1 (.box (.ptr i2 0 0) [v]) (by simp)
   cases e
   obtain ⟨_, e, d2⟩ := at1 (.box (.ptr j2 0 0) [.int .i64 180]) (by simp)
   cases e
   have hsv : SlX hb 1 v ((tellPut t).1.map bc) [] := at1 (.sl 1 v ((tellPut t).1.map bc) []) (by simp)
   have hbl := tellPut_len t
   have hans : ansRows s r t = ((List.range (pieceN (tellPut t).1)).map (pieceRow s r (tellPut t).1), 0) := by
    unfold ansRows
    rw [if_neg]
    rintro (e | e)
    ·exact e he
    ·exact hkn e
   rw [hans] at hq
   generalize hB : (tellPut t).1 = b at *
   have hpn : pieceN b ≤ 1000 := by unfold pieceN; omega
   refine range_iter (slices_Chunk_byte_byte_1.iter hC i4 (p := .ptr i2 0 0) (q := .ptr j2 0 0) (v := v) (b := b) (R := []) (by omega)) (fun h1 h2 hle d => ?_)
    (fun k hh => ∃ out P, P.map (·.1) = (List.range k).map (pieceRow s r b) ∧ Owns hb hh (RowsO (.ptr i10 0 0) out P)) (fun _ _ => False) ?_ ?_ ⟨.nils, [], rfl, o11⟩ ?_ (fun j hh e => e.elim)
   ·exact ⟨ldv_le hle d.1, ldv_le hle d.2.1, d.2.2.mono hle⟩
   ·rintro k hh ⟨out, P, e, o⟩
    exact ⟨by rw [ldv_at (o.le _ _ c2)]; rfl, by rw [ldv_at (o.le _ _ d2)]; rfl, hsv.mono o.le⟩
   ·rintro k xx hh E hxx ⟨out, P, eP, o⟩ hE0 _
    have hk : k < pieceN b := by
     have := (List.getElem?_eq_some_iff.1 hxx).1
     simpa [piecesX] using this
    have hxx : xx = [pieceV v b k] := by
     unfold piecesX at hxx
     rw [List.getElem?_map, List.getElem?_range hk] at hxx
     exact (Option.some.inj hxx).symm
    subst hxx
    have hPl : P.length = k := by have := congrArg List.length eP; simpa using this
    obtain ⟨_, e, w10⟩ := o.boxAt 0 rfl
    cases e
    have lo := (o.slAt 1 rfl : SlX hh 2 out (P.map rowK.cs) []).lenSl
    rw [List.length_map, hPl] at lo
    have r3 : A.ldv hh (.ptr i3 0 0) = some (.int .i64 s) := by rw [ldv_at (o.le _ _ c3)]; rfl
    have r4 : A.ldv hh (.ptr i4' 0 0) = some (.int .i64 r) := by rw [ldv_at (o.le _ _ c4)]; rfl
    have r10 : A.ldv hh (.ptr i10 0 0) = some out := by rw [ldv_at w10]; rfl
    simp -dsimp only [W1, row_Answer.r2, row_Answer.k1, B.ld_eq, r3, r4, r10, lo, B.pv_some]
    refine s2 s r k hh _ fun kv h11 q1 _ => ?_
    have q2 := o.join q1
    obtain ⟨_, e, w11⟩ := q2.boxAt 0 rfl
    cases e
    refine keepD1 ⟨out, r10, by rw [ldv_at w11]; rfl⟩ ?_
    have hpc : Bs h11 (pieceV v b k) (pieceI b k) := ⟨⟨[], ((pieceV_at hsv hk).2).mono q2.le⟩, by unfold pieceI far; simp; omega⟩
    refine s5 _ _ _ _ hpc fun vv h12 q3 => ?_
    have q4 := q2.join q3
    obtain ⟨_, e, w12⟩ := q4.boxAt 0 rfl
    cases e
    refine keepD1 ⟨out, by rw [ldv_at w11]; rfl, by rw [ldv_at w12]; rfl⟩ ?_
    have ck : kv.isCell = true := (q1.slAt 0 rfl : SlX h11 1 kv ((keyP s r k).map bc) []).isCell
    have cvv : vv.isCell = true := (q3.slAt 0 rfl : SlX h12 1 vv ((pieceI b k).map bc) []).isCell
    simp -dsimp [ck, cvv]
    refine q4.push 1 rfl (cs := [kv, vv]) rfl (by omega) (by simp; omega) (by simp [maxLen]; omega) fun out' h13 q5 _ => ?_
    have co : out'.isCell = true := (q5.slAt 1 rfl).isCell
    refine q5.boxSt 0 (off := 0) rfl co (by simp) fun h14 q6 _ => ?_
    refine hE0 h14 ⟨out', P ++ [(pieceRow s r b k, (kv, vv))], ?_, ?_⟩
    ·rw [List.map_append, eP, List.range_succ, List.map_append]; rfl
    ·unfold RowsO
     rw [DK.os_append, DK.os_one, List.map_append]
     simpa [rowK, pieceRow] using q6
   ·rintro hh ⟨out, P, e, o⟩
    have pl : (piecesX v b).length = pieceN b := by simp [piecesX]
    rw [pl] at e
    refine RK.here ?_
    obtain ⟨_, e2, w10⟩ := o.boxAt 0 rfl
    cases e2
    have r10 : A.ldv hh (.ptr i10 0 0) = some out := by rw [ldv_at w10]; rfl
    simp -dsimp only [B.ld_eq, r10, B.pv_some]
    exact dn_same (hq out P hh e ((o.back m1).sub (List.sublist_cons_self _ _)))
 ·simp -dsimp [he]
  exact bad h5 o4.le (by unfold ansRows; rw [if_pos (.inl he)])
def valLen (L : List Row) : Nat := (L.flatMap Row.Value).length
abbrev TellO (t : TellP) (x y : AVal) : List Ob := [.sl 6 x (t.Lots.map Lot.cs) [], .sl 3 y (t.Uses.map Use.cs) []]
def row_Answered.Spec (C : CSem) (N : Nat → Nat) : Prop := ∀ (s r : Int) (x : AVal) (L : List Row) (h : AHeap) (Q : AVal → AHeap → Prop), Dl rowK h x L → L.length ≤ 1000000 → valLen L ≤ 10000000 →
 (∀ x' y' h', Owns h h' (TellO (answered s r L).1 x' y') → Q (.tup [.agg ((answered s r L).1.cs x' y'), .bool (answered s r L).2]) h') → C (N 414) [.int .i64 s, .int .i64 r, x] h Q
theorem valLen_take {L : List Row} {k : Nat} {w : Row} (hw : L[k]? = some w) : valLen (L.take (k + 1)) = valLen (L.take k) + w.Value.length := by
 unfold valLen
 rw [take_succ hw, List.flatMap_append, List.length_append]
 simp
theorem valLen_le (L : List Row) (k : Nat) : valLen (L.take k) ≤ valLen L := by
 unfold valLen
 conv => rhs; rw [← List.take_append_drop k L, List.flatMap_append, List.length_append]
 omega
theorem row_Answered.spec (i : row_Answered.Imp C N) (s1 : row_Key.Spec C N) (s2 : bytes_HasPrefix.Spec C N) (s3 : bytes_Equal.Spec C N) (s4 : tell_Get.Spec C N) : row_Answered.Spec C N := by
 intro s r x L h Q hx hl hv hq
 apply i
 simp -dsimp only [row_Answered.cps, row_Answered.k5]
 refine s1 s r 0 h _ fun k0 h1 o1 hk => ?_
 have zero : ∀ h', h.le h' → answered s r L = (tellZero, false) → dn Q (.tup [.agg [.int .i64 0, .int .i64 0, .int .i64 0, .str [], .int .u8 0, .nils, .nils], .bool false]) h' := fun h' hle e => by
  rw [e] at hq
  exact dn_le hle (hq .nils .nils h (((Owns.start h).nils 6).nils 3))
 by_cases hkn : keyP s r 0 = []
 ·rw [hk hkn]
  simp -dsimp [V.eqSl]
  exact zero h1 o1.le (by unfold answered; rw [if_pos hkn])
 ·have b0 : SlX h1 1 k0 ((keyP s r 0).map bc) [] := o1.slAt 0 rfl
  have hno := eqSl_no b0 (by simpa using hkn)
  have hkb : keyBad s r 0 = false := by
   cases hb : keyBad s r 0 with
   | false => rfl
   | true => exact absurd (by unfold keyP; rw [hb]; rfl) hkn
  have k12 := keyP_len hkb
  have l0 := b0.lenSl
  rw [List.length_map, k12] at l0
  have hans : answered s r L = ansEnd (ansFold s r L [] 0 true) := by unfold answered; rw [if_neg hkn]
  have hlx := hx.lenSl
  simp -dsimp only [row_Answered.k4, hno, hlx, B.pv_some, B.cond_false]
  refine LoopR.intro (fun t vs hh => ∃ (k n : Nat) (y : AVal) (b : List UInt8) (w : Bool), k + t = L.length ∧ vs = [y, .int .i64 (n : Int), .bool w, .int .i64 (k : Int)] ∧ n ≤ k ∧ b.length ≤ valLen (L.take k) ∧ Owns h1 hh [.sl 1 y (b.map bc) []] ∧ ansFold s r (L.drop k) b n w = ansFold s r L [] 0 true) L.length ?_ ⟨0, 0, .nils, [], true, by simp, rfl, by omega, by simp, (Owns.start h1).nils 1, rfl⟩
  rintro Y t vs hh ⟨k, n, y, b, w, hkt, rfl, hnk, hbl, o, hf⟩ hY
  have hle : h.le hh := AHeap.le_trans o1.le o.le
  have hxx := hx.mono hle
  have vle := valLen_le L k
  simp -dsimp only [row_Answered.l3, row_Answered.k2, lssN, B.pv_some]
  refine B.cond_bool (fun hc => ?_) (fun hc => ?_)
  ·rw [decide_eq_true_eq] at hc
   obtain ⟨z, hz⟩ := get_lt hc
   obtain ⟨kx, vx, e1, e2, e3, e4, e5, e6, a1, a2⟩ := row_get hxx hz
   have hd : L.drop k = z :: L.drop (k + 1) := by
    rw [List.drop_eq_getElem_cons hc]
    congr 1
    rw [List.getElem?_eq_getElem hc] at hz
    exact Option.some.inj hz
   rw [hd, ansFold] at hf
   have vst := valLen_take hz
   have vle1 := valLen_le L (k + 1)
   have l1 := a1.lenSl
   have l2 := a2.lenSl
   have ly := (o.slAt 0 rfl : SlX hh 1 y (b.map bc) []).lenSl
   rw [List.length_map] at ly
   obtain ⟨z0, R0, f1, f2, _⟩ := b0.sliceIn (by omega) (lo := 0) (hi := 10) (a := none) (b := some (.int .i64 ((10 : Nat) : Int))) (.inl ⟨rfl, rfl⟩) (.inr ⟨_, rfl⟩) (by omega) (by omega)
   rw [List.drop_zero] at f2
   have f1 : V.cutSl 1 k0 none (some (.int .i64 10)) = some z0 := f1
   have hpre : Bs hh z0 ((keyP s r 0).take 10) := ⟨⟨R0, f2.mono o.le⟩, by unfold far; simp; omega⟩
   have h10 : ((keyP s r 0).take 10).length = 10 := by simp; omega
   have skip : mineB s r z = false → Y [y, .int .i64 (n : Int), .bool w, .int .i64 ((k + 1 : Nat) : Int)] hh := fun e => by
    rw [if_neg (by rw [e]; exact Bool.false_ne_true)] at hf
    exact hY (L.length - (k + 1)) _ _ (by omega) ⟨k + 1, n, y, b, w, by omega, rfl, by omega, by omega, o, hf⟩
   by_cases h12 : z.Key.length = 12
   ·have h12' : decide ((z.Key.length : Int) = 12) = true := by rw [decide_eq_true_eq]; omega
    simp -dsimp [e1, e2, l1, l0, h12', f1]
    refine s2 kx z0 z.Key _ hh _ a1 hpre ?_
    rw [h10]
    simp -dsimp
    refine B.cond_bool (fun hp => ?_) (fun hp => ?_)
    ·simp -dsimp only [add1 (show k < 4611686018427387904 by omega), B.pv_some]
     exact skip (by unfold mineB; rw [Bool.not_eq_true'] at hp; rw [hp, Bool.and_false])
    ·rw [Bool.not_eq_false'] at hp
     have hm : mineB s r z = true := by unfold mineB; rw [decide_eq_true h12, hp]; rfl
     rw [if_pos hm] at hf
     have em : V.bin .mul (.int .i64 (n : Int)) (.int .i64 180) = some (.int .i64 ((n * 180 : Nat) : Int)) := by rw [V.bin_mul, wrap_i64 (by omega) (by omega)]; simp
     have ee : decide (((b.length : Nat) : Int) = ((n * 180 : Nat) : Int)) = decide (b.length = n * 180) := decide_eq_decide.2 (by omega)
     have fin : ∀ (c : Bool) (h2 : AHeap), hh.le h2 → Owns h1 h2 [.sl 1 y (b.map bc) []] → c = (w && wholeB s r b n z) →
       B.appW h2 1 1 y vx fun v75 h => B.pv (V.bin .add (.int .i64 (n : Int)) (.int .i64 1)) fun v77 => B.pv (V.bin .add (.int .i64 (k : Int)) (.int .i64 1)) fun v78 => Y [v75, v77, .bool c, v78] h := by
      intro c h2 hle2 o2 ec
      obtain ⟨⟨Rv, hvv⟩, _⟩ := a2.mono hle2
      refine o2.appW 0 rfl hvv (by omega) (by simp; omega) (by simp [maxLen]; omega) fun y' h3 o3 _ => ?_
      simp -dsimp only [add1 (show n < 4611686018427387904 by omega), add1 (show k < 4611686018427387904 by omega), B.pv_some]
      refine hY (L.length - (k + 1)) _ _ (by omega) ⟨k + 1, n + 1, y', b ++ z.Value, c, by omega, rfl, by omega, by simp; omega, by rw [List.map_append]; exact o3, ?_⟩
      rw [← hf, ec]
     have hnb : n + 1 < 4611686018427387904 := by omega
     cases w with
     | false =>
      simp -dsimp [- V.bin_add, - V.bin_mul]
      exact fin false hh (AHeap.le_refl _) o rfl
     | true =>
      simp -dsimp
      refine s1 s r n hh _ fun kv h2 o2 _ => ?_
      have bk : Bs h2 kv (keyP s r n) := ⟨⟨[], o2.slAt 0 rfl⟩, by unfold keyP far; cases keyBad s r n <;> simp⟩
      simp -dsimp
      refine s3 kx kv _ _ h2 _ (a1.mono o2.le) bk ?_
      have l2' := l2
      simp +contextual -dsimp [ly, l2, em, - V.bin_mul, - V.bin_add]
      refine fin _ h2 o2.le (o.grow o2.le) ?_
      unfold wholeB
      have q1 : ((b.length : Int) = (n : Int) * 180) ↔ b.length = n * 180 := by omega
      have q2 : ((z.Value.length : Int) ≤ 180) ↔ z.Value.length ≤ 180 := by omega
      rw [decide_eq_decide.2 q1, decide_eq_decide.2 q2, Bool.true_and]
      cases decide (z.Key = keyP s r n) <;> cases decide (b.length = n * 180) <;> cases decide (0 < z.Value.length) <;> rfl
   ·have h12' : decide ((z.Key.length : Int) = 12) = false := by rw [decide_eq_false_iff_not]; omega
    simp -dsimp [e1, e2, l1, l0, h12', - V.bin_add, add1 (show k < 4611686018427387904 by omega)]
    exact skip (by unfold mineB; rw [decide_eq_false h12]; rfl)
  ·rw [decide_eq_false_iff_not] at hc
   have : k = L.length := by omega
   subst this
   rw [List.drop_length, ansFold] at hf
   rw [← hf] at hans
   have hy := o.slAt 0 rfl
   have ly : V.lenSl y = some (.int .i64 (b.length : Int)) := by have := hy.lenSl; rwa [List.length_map] at this
   simp -dsimp only [row_Answered.k1]
   refine s4 y b hh _ ⟨⟨[], hy⟩, by omega⟩ fun x' y' h2 o2 => ?_
   have cx : x'.isCell = true := (o2.slAt 0 rfl).isCell
   have cy : y'.isCell = true := (o2.slAt 1 rfl).isCell
   have hle2 : h.le h2 := AHeap.le_trans hle o2.le
   cases w with
   | false =>
    simp -dsimp [TellP.val]
    exact zero h2 hle2 (by rw [hans]; unfold ansEnd; rw [if_neg]; rintro ⟨e, _⟩; cases e)
   | true =>
    by_cases g1 : (tellGet b).2.2 = 0
    ·by_cases g2 : (tellGet b).2.1 = b.length
     ·simp -dsimp [TellP.val, g1, g2, ly]
      have : answered s r L = ((tellGet b).1, true) := by rw [hans]; unfold ansEnd; rw [if_pos ⟨rfl, g1, g2⟩]
      rw [this] at hq
      exact dn_same (hq x' y' h2 (o2.back hle))
     ·have g2' : ¬ ((tellGet b).2.1 : Int) = b.length := by omega
      simp -dsimp [TellP.val, g1, g2', ly]
      exact zero h2 hle2 (by rw [hans]; unfold ansEnd; rw [if_neg]; rintro ⟨_, _, e⟩; exact g2 e)
    ·simp -dsimp [TellP.val, g1]
     exact zero h2 hle2 (by rw [hans]; unfold ansEnd; rw [if_neg]; rintro ⟨_, e, _⟩; exact g1 e)
def itemW : DK Itm (AVal × AVal) where
 n := 4
 bytes := 72
 z := [.str [], .int .i64 0, .nils, .nils]
 pos := by omega
 small := by omega
 zlen := rfl
 cells t a := [.str t.Code, .int .i64 t.Life, a.1, a.2]
 len _ _ := rfl
 at_ h t a := (∃ R, SlX h 2 a.1 (t.Parts.map Part.cs) R) ∧ (∃ R, SlX h 1 a.2 (t.Others.map tc) R)
 mono hle ha := ⟨ha.1.imp fun _ r => r.mono hle, ha.2.imp fun _ r => r.mono hle⟩
 ok _ := True
 at_ok _ := trivial
 obs b t a := [partsOb b a.1 t.Parts, textsOb b a.2 t.Others]
 ofObs {b h t a} _ ha := ⟨⟨_, show SlX h 2 a.1 (t.Parts.map Part.cs) (bif b then marksPart else []) from ha (partsOb b a.1 t.Parts) (by simp)⟩, ⟨_, show SlX h 1 a.2 (t.Others.map tc) (bif b then marksText else []) from ha (textsOb b a.2 t.Others) (by simp)⟩⟩
theorem itemW_K {h : AHeap} {x : AVal} {L : List Itm} (hx : Dl itemW h x L) (hok : ∀ t ∈ L, t.ok) : Dl itemK h x L := by
 obtain ⟨P, R, rfl, s, ha⟩ := hx
 exact ⟨P, R, rfl, s, fun p hp => ⟨(ha p hp).1, (ha p hp).2, hok p.1 (List.mem_map_of_mem hp)⟩⟩
def Itm.inLen (t : Itm) : Prop := t.Code.length < 4611686018427387904 ∧ (∀ p ∈ t.Parts, p.Item.length < 4611686018427387904) ∧ (∀ o ∈ t.Others, o.length < 4611686018427387904) ∧ t.Parts.length < 100000000000000000 ∧ t.Others.length < 100000000000000000
abbrev tyItem : Ty := .st [.s, .i .i64, .sl 24 2 tyPart, .sl 16 1 .s]
theorem absSl1 {H : AHeap} {b e : Nat} {t : Ty} {c : List AVal} (h : AbsOk H (.sl b e t) c) : ∃ v, c = [v] := by
 rcases h with h | h | ⟨_, _, h, _⟩ <;> exact ⟨_, h⟩
theorem dPartL {H : AHeap} {p : List AVal} (h : AbsOk H tyPart p) : ∃ w : Part, p = w.cs ∧ w.Item.length < 4611686018427387904 := by
 obtain ⟨a, r, rfl, ⟨n1, rfl, q1⟩, ⟨b, r2, rfl, ⟨n2, rfl, _⟩, hr⟩⟩ := h
 cases hr
 exact ⟨⟨n1, n2⟩, rfl, by unfold reach at q1; show n1.length < _; omega⟩
theorem dPartsL {H : AHeap} {v : AVal} (h : AbsOk H (.sl 24 2 tyPart) [v]) : ∃ L : List Part, SlIs H 2 v (L.map Part.cs) ∧ L.length < 100000000000000000 ∧ ∀ l ∈ L, l.Item.length < 4611686018427387904 := by
 obtain ⟨L, h1, h2, h3⟩ := arg_sliceP Part.cs (fun l => l.Item.length < 4611686018427387904) (fun p hp => dPartL hp) h
 exact ⟨L, h1, by unfold reach at h2; omega, h3⟩
theorem dTextW {H : AHeap} {p : List AVal} (h : AbsOk H .s p) : ∃ s : List UInt8, p = tc s ∧ s.length < 4611686018427387904 := by
 obtain ⟨s, rfl, q⟩ := h
 exact ⟨s, rfl, by unfold reach at q; omega⟩
theorem dTextsL {H : AHeap} {v : AVal} (h : AbsOk H (.sl 16 1 .s) [v]) : ∃ L : List (List UInt8), SlIs H 1 v (L.map tc) ∧ L.length < 100000000000000000 ∧ ∀ s ∈ L, s.length < 4611686018427387904 := by
 obtain ⟨L, h1, h2, h3⟩ := arg_sliceP tc (fun s => s.length < 4611686018427387904) (fun p hp => dTextW hp) h
 exact ⟨L, h1, by unfold reach at h2; omega, h3⟩
theorem dItem {H : AHeap} {p : List AVal} (h : AbsOk H tyItem p) : ∃ (t : Itm) (a : AVal × AVal), p = itemW.cells t a ∧ itemW.at_ H t a ∧ t.inLen := by
 obtain ⟨a, r, rfl, ⟨n1, rfl, q1⟩, ⟨b, r2, rfl, ⟨n2, rfl, _⟩, ⟨c, r3, rfl, h3, ⟨d, r4, rfl, h4, hr⟩⟩⟩⟩ := h
 cases hr
 obtain ⟨v, rfl⟩ := absSl1 h3
 obtain ⟨w, rfl⟩ := absSl1 h4
 obtain ⟨P, k1, k2, k3⟩ := dPartsL h3
 obtain ⟨O, g1, g2, g3⟩ := dTextsL h4
 exact ⟨⟨n1, n2, P, O⟩, (v, w), rfl, ⟨⟨[], k1⟩, ⟨[], g1⟩⟩, by unfold reach at q1; show n1.length < _; omega, k3, g3, k2, g2⟩
theorem arg_sliceDP {T Ad : Type} {K : DK T Ad} {Pr : T → Prop} {H : AHeap} {bytes : Nat} {e : Ty} {v : AVal} (hd : ∀ p, AbsOk H e p → ∃ (t : T) (a : Ad), p = K.cells t a ∧ K.at_ H t a ∧ Pr t) (h : AbsOk H (.sl bytes K.n e) [v]) : ∃ L : List T, Dl K H v L ∧ L.length * bytes ≤ reach ∧ ∀ t ∈ L, Pr t := by
 obtain ⟨G, h1, h2⟩ := arg_slice (T := { p : T × Ad // K.at_ H p.1 p.2 ∧ Pr p.1 }) (fun p => K.cells p.1.1 p.1.2) (fun p hp => by obtain ⟨t, a, e, k⟩ := hd p hp; exact ⟨⟨(t, a), k⟩, e⟩) h
 refine ⟨(G.map (·.1)).map (·.1), ⟨G.map (·.1), [], rfl, ?_, fun p hp => ?_⟩, by simpa using h2, fun t ht => ?_⟩
 ·rw [List.map_map]; exact h1
 ·obtain ⟨q, _, rfl⟩ := List.mem_map.1 hp; exact q.2.1
 ·obtain ⟨q, hq, rfl⟩ := List.mem_map.1 ht
  obtain ⟨q', _, rfl⟩ := List.mem_map.1 hq
  exact q'.2.2
theorem dItems {H : AHeap} {v : AVal} (h : AbsOk H (.sl 72 4 tyItem) [v]) : ∃ L : List Itm, Dl itemW H v L ∧ L.length < 4611686018427387904 ∧ ∀ t ∈ L, t.inLen := by
 obtain ⟨L, h1, h2, h3⟩ := arg_sliceDP (K := itemW) (fun p hp => dItem hp) h
 exact ⟨L, h1, by unfold reach at h2; omega, h3⟩
def kit_CopyLines.Spec (C : CSem) (N : Nat → Nat) : Prop := ∀ (x : AVal) (L : List Line) (R : List (List AVal)) (h : AHeap) (Q : AVal → AHeap → Prop), SlX h 8 x (L.map Line.cs) R → L.length ≤ 100000000 →
 (∀ x' h', Owns h h' [.sl 8 x' (L.map Line.cs) []] → Q x' h') → C (N 437) [x] h Q
theorem kit_CopyLines.spec (i : kit_CopyLines.Imp C N) : kit_CopyLines.Spec C N := fun x L R h Q hx hlen hq =>
 i x h Q (copy_spec (by omega) (by omega) hx (by simpa using hlen) fun x' h' ho => dn_same (hq x' h' ho))
def kit_SameState.Spec (C : CSem) (N : Nat → Nat) : Prop := ∀ (s t : Sta) (x y z u v w : AVal) (h : AHeap) (Q : AVal → AHeap → Prop), StaAt h s x y z → StaAt h t u v w → Q (.bool (decide (s = t))) h → C (N 116) [.agg (staCs s x y z), .agg (staCs t u v w)] h Q
theorem Sta.eq_iff (s t : Sta) : s = t ↔ ((((s.Now = t.Now ∧ s.NextLot = t.NextLot) ∧ s.NextLine = t.NextLine) ∧ s.Items = t.Items) ∧ s.Lots = t.Lots) ∧ s.Lines = t.Lines := by
 cases s; cases t; simp [Sta.mk.injEq, and_assoc]
theorem kit_SameState.spec (i : kit_SameState.Imp C N) (s1 : kit_SameItems.Spec C N) (s2 : kit_SameLots.Spec C N) (s3 : kit_SameLines.Spec C N) : kit_SameState.Spec C N := by
 intro s t x y z u v w h Q hs ht hq
 obtain ⟨a1, ⟨R2, a2⟩, ⟨R3, a3⟩, n1, n2, n3⟩ := hs
 obtain ⟨b1, ⟨S2, b2⟩, ⟨S3, b3⟩, m1, m2, m3⟩ := ht
 apply i
 simp +contextual -dsimp
 refine B.gdb_call (v := .bool (decide (s.Items = t.Items))) (fun _ Q hq => s1 _ _ _ _ _ _ a1 b1 (by omega) hq) ?_
 simp +contextual -dsimp
 refine B.gdb_call (v := .bool (decide (s.Lots = t.Lots))) (fun _ Q hq => s2 _ _ _ _ _ _ _ _ a2 b2 (by omega) hq) ?_
 simp +contextual -dsimp
 refine B.gdb_call (v := .bool (decide (s.Lines = t.Lines))) (fun _ Q hq => s3 _ _ _ _ _ _ _ _ a3 b3 (by omega) hq) ?_
 simp -dsimp
 refine dn_same ?_
 have : decide (s = t) = (((((decide (s.Now = t.Now) && decide (s.NextLot = t.NextLot)) && decide (s.NextLine = t.NextLine)) && decide (s.Items = t.Items)) && decide (s.Lots = t.Lots)) && decide (s.Lines = t.Lines)) := by
  rw [Bool.eq_iff_iff]
  simp only [decide_eq_true_eq, Bool.and_eq_true]
  exact Sta.eq_iff s t
 rw [this] at hq
 exact hq
def kit_CopyState.Spec (C : CSem) (N : Nat → Nat) : Prop := ∀ (s : Sta) (x y z : AVal) (h : AHeap) (Q : AVal → AHeap → Prop), StaAt h s x y z → (∀ x' P y' z' h', P.map (·.1) = s.Items → Owns h h' (StaO s x' P y' z') → Q (.agg (staCs s x' y' z')) h') → C (N 420) [.agg (staCs s x y z)] h Q
theorem kit_CopyState.spec (i : kit_CopyState.Imp C N) (s1 : kit_CopyItems.Spec C N) (s2 : kit_CopyLots.Spec C N) (s3 : kit_CopyLines.Spec C N) : kit_CopyState.Spec C N := by
 intro s x y z h Q hs hq
 obtain ⟨a1, ⟨R2, a2⟩, ⟨R3, a3⟩, n1, n2, n3⟩ := hs
 apply i
 simp -dsimp
 refine s1 _ _ _ _ a1 n1 fun x' P h1 e o1 => ?_
 have c1 : x'.isCell = true := (o1.slAt 0 rfl).isCell
 simp -dsimp [c1]
 refine s2 _ _ _ _ _ (a2.mono o1.le) n2 fun y' h2 o2 => ?_
 have c2 := (o2.slAt 0 rfl).isCell
 have o12 := o1.join o2
 simp -dsimp [c2]
 refine s3 _ _ _ _ _ (a3.mono o12.le) n3 fun z' h3 o3 => ?_
 have c3 := (o3.slAt 0 rfl).isCell
 simp -dsimp [c3]
 refine dn_same (hq x' P y' z' h3 e ((o12.join o3).perm ?_))
 show List.Perm (.sl 4 x' (P.map itemK.cs) [] :: ((itemK.os false P ++ [.sl 6 y' (s.Lots.map Lot.cs) []]) ++ [.sl 8 z' (s.Lines.map Line.cs) []])) (.sl 4 x' (P.map itemK.cs) [] :: ([.sl 6 y' (s.Lots.map Lot.cs) [], .sl 8 z' (s.Lines.map Line.cs) []] ++ itemK.os false P))
 rw [List.append_assoc]
 exact List.perm_append_comm.cons _
structure StaW (h : AHeap) (s : Sta) (x y z : AVal) : Prop where
 items : Dl itemW h x s.Items
 lots : ∃ R, SlX h 6 y (s.Lots.map Lot.cs) R
 lines : ∃ R, SlX h 8 z (s.Lines.map Line.cs) R
 n1 : s.Items.length < 4611686018427387904
 n2 : s.Lots.length < 1000000000000000000
 n3 : s.Lines.length < 1000000000000000000
 inl : ∀ t ∈ s.Items, t.inLen
structure StaB (s : Sta) : Prop where
 n : s.Items.length + s.Lots.length + s.Lines.length ≤ 2000
 ok : ∀ t ∈ s.Items, t.Parts.length ≤ 2000 ∧ t.Others.length ≤ 2000
theorem StaB.at {h : AHeap} {s : Sta} {x y z : AVal} (b : StaB s) (a : StaW h s x y z) : StaAt h s x y z :=
 ⟨itemW_K a.items fun t ht => by have := b.ok t ht; unfold Itm.ok few; omega, a.lots, a.lines, by have := b.n; omega, by have := b.n; omega, by have := b.n; omega⟩
theorem itm_getP {h : AHeap} {x : AVal} {L : List Itm} (hx : Dl itemW h x L) {i : Nat} {r : Itm} (hr : L[i]? = some r) : ∃ p o, V.idxS 4 x (.int .i64 (i : Int)) = some (elp 4 x i 0) ∧
  V.fieldAddr 2 (elp 4 x i 0) = some (elp 4 x i 2) ∧ V.fieldAddr 3 (elp 4 x i 0) = some (elp 4 x i 3) ∧ A.ldv h (elp 4 x i 2) = some p ∧ A.ldv h (elp 4 x i 3) = some o ∧ V.lenSl p = some (.int .i64 (r.Parts.length : Int)) ∧ V.lenSl o = some (.int .i64 (r.Others.length : Int)) := by
 obtain ⟨a, ea⟩ := hx.get hr
 obtain ⟨⟨R1, a1⟩, ⟨R2, a2⟩⟩ := ea.at_
 have l1 := a1.lenSl
 have l2 := a2.lenSl
 rw [List.length_map] at l1 l2
 exact ⟨a.1, a.2, ea.idx, ea.fld 0 2, ea.fld 0 3, ea.ld 2 (by decide), ea.ld 3 (by decide), l1, l2⟩
def law16_great.Spec (C : CSem) (N : Nat → Nat) : Prop := ∀ (s : Sta) (x y z : AVal) (h : AHeap) (Q : AVal → AHeap → Prop), StaW h s x y z → (∀ b : Bool, (b = false → StaB s) → Q (.bool b) h) → C (N 416) [.agg (staCs s x y z)] h Q
theorem law16_great.spec (i : law16_great.Imp C N) : law16_great.Spec C N := by
 intro s x y z h Q ha hq
 obtain ⟨hx, ⟨R2, hy⟩, ⟨R3, hz⟩, n1, n2, n3, inl⟩ := ha
 have lx := hx.lenSl
 have ly := hy.lenSl
 have lz := hz.lenSl
 rw [List.length_map] at ly lz
 apply i
 have b0 := addNN (a := s.Lots.length) (b := s.Lines.length) (by omega)
 simp -dsimp [ly, lz, b0, - V.bin_add]
 refine LoopR.intro (fun t vs hh => hh = h ∧ ∃ k n : Nat, k + t = s.Items.length ∧ vs = [.int .i64 (n : Int), .int .i64 (k : Int)] ∧ n < 4000000000000000000 ∧ s.Lots.length + s.Lines.length + k ≤ n ∧ (n ≤ 2000 → ∀ t ∈ s.Items.take k, t.Parts.length ≤ 2000 ∧ t.Others.length ≤ 2000)) s.Items.length ?_ ⟨rfl, 0, s.Lots.length + s.Lines.length, by omega, rfl, by omega, by omega, fun _ t h => (by simp at h)⟩
 rintro Y t vs h ⟨rfl, k, n, ht, rfl, hn, hsum, hall⟩ hY
 simp -dsimp only [law16_great.l2, law16_great.k1]
 by_cases hk : k < s.Items.length
 ·by_cases h4 : n ≤ 2000
  ·have h4' : (n : Int) ≤ 2000 := by omega
   obtain ⟨r, hr⟩ := get_lt hk
   obtain ⟨p, o, e1, e4, e5, e6, e7, e8, e9⟩ := itm_getP hx hr
   obtain ⟨_, _, _, hp, hoo⟩ := inl r (List.mem_of_getElem? hr)
   have c1 := add1 (show n < 4611686018427387904 by omega)
   have c2 := addNN (a := n + 1) (b := r.Parts.length) (by omega)
   have c3 := addNN (a := n + 1 + r.Parts.length) (b := r.Others.length) (by omega)
   have c4 := add1 (show k < 4611686018427387904 by omega)
   simp -dsimp [lx, hk, h4', - V.bin_add]
   simp -dsimp only [B.al_agg, V.field1_agg, List.getElem?_cons_zero, List.getElem?_cons_succ, B.ld_eq, B.pv_some, e1, e4, e5, e6, e7, e8, e9, c1, c2, c3, c4]
   refine hY (t - 1) _ _ (by omega) ⟨rfl, k + 1, n + 1 + r.Parts.length + r.Others.length, by omega, rfl, by omega, by omega, fun hle w hw => ?_⟩
   rw [take_succ hr, List.mem_append] at hw
   rcases hw with hw | hw
   ·exact hall h4 w hw
   ·rw [List.mem_singleton.1 hw]; omega
  ·have h4' : ¬ (n : Int) ≤ 2000 := by omega
   have h4'' : (2000 : Int) < n := by omega
   simp -dsimp [lx, hk, h4', h4'']
   exact dn_same (hq true fun e => by cases e)
 ·have hkk : k = s.Items.length := by omega
  subst hkk
  rw [List.take_length] at hall
  simp -dsimp [lx]
  by_cases h4 : n ≤ 2000
  ·have h4' : ¬ (2000 : Int) < n := by omega
   simp -dsimp [h4']
   exact dn_same (hq false fun _ => ⟨by omega, hall h4⟩)
  ·have h4' : (2000 : Int) < n := by omega
   simp -dsimp [h4']
   exact dn_same (hq true fun e => by cases e)
theorem rCode_put {b post s : List UInt8} {a : Nat} (hs : s = [] ∨ codeRight s = true) (h : b.drop a = codePut s ++ post) : rCode b ⟨a, false⟩ = (s, ⟨a + (codePut s).length, false⟩) ∧ b.drop (a + (codePut s).length) = post := ⟨rCode_at hs h, drop_step h⟩
theorem rNum_put {b post : List UInt8} {n : Int} {k a : Nat} (hk : k < 8) (h0 : 0 ≤ n) (h1 : n < (256 ^ k : Nat)) (h : b.drop a = be n k ++ post) : rNum b k ⟨a, false⟩ = (n, ⟨a + k, false⟩) ∧ b.drop (a + k) = post := by
 have e := rNum_at h
 rw [wrap_val hk h0 h1] at e
 have d := drop_step h
 rw [be_len] at d
 exact ⟨e, d⟩
theorem rNum_put8 {b post : List UInt8} {n : Int} {a : Nat} (hn : inI64 n) (h : b.drop a = be n 8 ++ post) : rNum b 8 ⟨a, false⟩ = (n, ⟨a + 8, false⟩) ∧ b.drop (a + 8) = post := by
 have e := rNum_at h
 rw [wrap_val8 hn] at e
 have d := drop_step h
 rw [be_len] at d
 exact ⟨e, d⟩
theorem rByte_put {b post : List UInt8} {c : UInt8} {a : Nat} (h : b.drop a = c :: post) : rNum b 1 ⟨a, false⟩ = ((c.toNat : Int), ⟨a + 1, false⟩) ∧ b.drop (a + 1) = post := by
 refine rNum_put (by omega) (by omega) (by have := u8_lt c; simp; omega) ?_
 rw [be_one, byt_self]; exact h
theorem byt_small {n : Nat} (h : n < 256) : (byt (n : Int)).toNat = n := by
 have := byt_nat (n : Int)
 omega
theorem qty_facts {t : Itm} (h : keptB t = true) : (∀ p ∈ t.Parts, 1 ≤ p.Qty ∧ p.Qty ≤ 1073741824) ∧ 0 ≤ t.Life ∧ t.Life ≤ 2000 := by
 unfold keptB at h
 simp only [Bool.and_eq_true] at h
 by_cases e : t.Parts = []
 ·rw [e] at h ⊢
  simp only [decide_true, cond_true, Bool.and_eq_true, decide_eq_true_eq] at h
  exact ⟨by simp, by omega, by omega⟩
 ·rw [decide_eq_false e] at h
  simp only [cond_false, Bool.and_eq_true, decide_eq_true_eq, qtyB, List.all_eq_true] at h
  exact ⟨fun p hp => h.2.1 p hp, by omega, by omega⟩
theorem rPart_at {b post : List UInt8} {p : Part} {a : Nat} (hc : codeRight p.Item = true) (h1 : 1 ≤ p.Qty) (h2 : p.Qty ≤ 1073741824) (h : b.drop a = (codePut p.Item ++ be p.Qty 4) ++ post) : rPart b ⟨a, false⟩ = (p, ⟨a + (codePut p.Item ++ be p.Qty 4).length, false⟩) := by
 rw [List.append_assoc] at h
 obtain ⟨e1, d1⟩ := rCode_put (.inr hc) h
 obtain ⟨e2, d2⟩ := rNum_put (by omega) (by omega) (by simp; omega) d1
 simp only [rPart, e1, e2, List.length_append, be_len, Nat.add_assoc]
theorem rItem_at {t : Itm} (h : keptB t = true) : rItem (itemVal t) t.Code ⟨0, false⟩ = (t, ⟨(itemVal t).length, false⟩) := by
 obtain ⟨k1, k2, k3, k4, k5⟩ := kept_facts h
 obtain ⟨q1, q2, q3⟩ := qty_facts h
 have d0 : (itemVal t).drop 0 = be t.Life 2 ++ (byt t.Parts.length :: ((t.Parts.flatMap fun p => codePut p.Item ++ be p.Qty 4) ++ (byt t.Others.length :: t.Others.flatMap codePut))) := rfl
 obtain ⟨e1, d1⟩ := rNum_put (by omega) q2 (by simp; omega) d0
 obtain ⟨e2, d2⟩ := rByte_put d1
 rw [byt_small (by omega)] at e2
 have e3 := rList_at (one := rPart (itemVal t)) t.Parts (fun p hp a post hh => rPart_at (k3 p hp) (q1 p hp).1 (q1 p hp).2 hh) d2
 have d3 := drop_step d2
 obtain ⟨e4, d4⟩ := rByte_put d3
 rw [byt_small (by omega)] at e4
 rw [← List.append_nil (t.Others.flatMap codePut)] at d4
 have e5 := rList_at (one := rCode (itemVal t)) t.Others (fun o ho a post hh => rCode_at (.inr (k5 o ho)) hh) d4
 have hl : (itemVal t).length = 0 + 2 + 1 + (t.Parts.flatMap fun p => codePut p.Item ++ be p.Qty 4).length + 1 + (t.Others.flatMap codePut).length := by
  simp only [itemVal, List.length_append, List.length_cons, be_len]; omega
 simp only [rItem, e1, e2, Int.toNat_natCast, e3, e4, e5, hl]
theorem rRowLot_at {l : Lot} (h : lotRight l = true) : rRowLot (lotVal l) l.Id ⟨0, false⟩ = (l, ⟨(lotVal l).length, false⟩) := by
 obtain ⟨f1, f2, f3, f4, f5, f6, f7⟩ := lotRight_facts h
 have d0 : (lotVal l).drop 0 = codePut l.Item ++ (be l.From 2 ++ (be l.Until 2 ++ (be l.Qty 4 ++ [bif l.Arrived then 1 else 0]))) := rfl
 obtain ⟨e1, d1⟩ := rCode_put (.inr f2) d0
 obtain ⟨e2, d2⟩ := rNum_put (by omega) f3 (by simp; omega) d1
 obtain ⟨e3, d3⟩ := rNum_put (by omega) (by omega) (by simp; omega) d2
 obtain ⟨e4, d4⟩ := rNum_put (by omega) (by omega) (by simp; omega) d3
 obtain ⟨e5, d5⟩ := rByte_put d4
 have hl : (lotVal l).length = 0 + (codePut l.Item).length + 2 + 2 + 4 + 1 := by
  simp only [lotVal, List.length_append, List.length_cons, be_len, List.length_nil]; omega
 have hb : decide (((bif l.Arrived then (1 : UInt8) else 0).toNat : Int) = 1) = l.Arrived := by cases l.Arrived <;> rfl
 simp only [rRowLot, e1, e2, e3, e4, e5, hl, hb]
theorem lineRight_facts {l : Line} (h : lineRight l = true) : 0 < l.Id ∧ codeRight l.Item = true ∧ 0 < l.Qty ∧ l.Qty ≤ 1073741824 ∧ 0 ≤ l.Asked ∧ l.Asked ≤ 4000 ∧ 0 ≤ l.Rank ∧ l.Rank ≤ 99 ∧ -1 ≤ l.Day ∧ l.Day ≤ 4000 ∧ (l.Code = [] ∨ codeRight l.Code = true) := by
 unfold lineRight at h
 simp only [Bool.and_eq_true, decide_eq_true_eq] at h
 obtain ⟨⟨⟨h1, h2⟩, h3⟩, h4⟩ := h
 by_cases e : l.Day = -1
 ·rw [decide_eq_true e] at h4
  simp only [cond_true, Bool.and_eq_true, decide_eq_true_eq] at h4
  exact ⟨h1, h2, by omega, by omega, by omega, by omega, by omega, by omega, by omega, by omega, .inl h4.1⟩
 ·rw [decide_eq_false e] at h4
  simp only [cond_false, Bool.and_eq_true, decide_eq_true_eq] at h4
  exact ⟨h1, h2, by omega, by omega, by omega, by omega, by omega, by omega, by omega, by omega, .inr h4.1.2⟩
theorem rRowLine_at {l : Line} (h : lineRight l = true) : rRowLine (lineVal l) l.Id ⟨0, false⟩ = (l, ⟨(lineVal l).length, false⟩) := by
 obtain ⟨f1, f2, f3, f4, f5, f6, f7, f8, f9, f10, f11⟩ := lineRight_facts h
 have d0 : (lineVal l).drop 0 = codePut l.Item ++ (be l.Qty 4 ++ (be l.Asked 2 ++ (byt l.Rank :: l.State :: (be (l.Day + 1) 2 ++ codePut l.Code)))) := rfl
 obtain ⟨e1, d1⟩ := rCode_put (.inr f2) d0
 obtain ⟨e2, d2⟩ := rNum_put (by omega) (by omega) (by simp; omega) d1
 obtain ⟨e3, d3⟩ := rNum_put (by omega) (by omega) (by simp; omega) d2
 obtain ⟨e4, d4⟩ := rByte_put d3
 obtain ⟨e5, d5⟩ := rByte_put d4
 obtain ⟨e6, d6⟩ := rNum_put (by omega) (by omega) (by simp; omega) d5
 rw [← List.append_nil (codePut l.Code)] at d6
 obtain ⟨e7, d7⟩ := rCode_put f11 d6
 have hl : (lineVal l).length = 0 + (codePut l.Item).length + 4 + 2 + 1 + 1 + 2 + (codePut l.Code).length := by
  simp only [lineVal, List.length_append, List.length_cons, be_len, List.length_nil]; omega
 have hr : ((byt l.Rank).toNat : Int) = l.Rank := by have := byt_nat l.Rank; omega
 have hd : IntKind.i64.wrap (l.Day + 1 - 1) = l.Day := by rw [wrap_i64 (by omega) (by omega)]; omega
 simp only [rRowLine, e1, e2, e3, e4, e5, e6, e7, hl, hr, byt_self, hd]
def isAns (x : Row) : Bool := decide (x.Key.head? = some 97)
def ordK : Option Row → List Row → Bool
 | _, [] => true
 | p, x :: l => !outB p x && ordK (some x) l
def stFold : List Row → Sta → Option Sta
 | [], s => some s
 | x :: l, s => if (stRow x s).2 = true then none else stFold l (stRow x s).1
abbrev ownRows (l : List Row) : List Row := l.filter fun x => !isAns x
theorem stRows_some : ∀ (l : List Row) (p : Option Row) (s s' : Sta) (m : List Row), ordK p l = true → stFold (ownRows l) s = some s' → stRows l p s m = some (s', m ++ ownRows l)
 | [], p, s, s', m, _, h => by
  cases h
  simp [stRows]
 | x :: l, p, s, s', m, ho, h => by
  simp only [ordK, Bool.and_eq_true, Bool.not_eq_true'] at ho
  rw [stRows, if_neg (by rw [ho.1]; exact Bool.false_ne_true)]
  by_cases ha : x.Key.head? = some 97
  ·have e : ownRows (x :: l) = ownRows l := by simp [ownRows, isAns, ha]
   rw [if_pos ha, stRows_some l (some x) s s' m ho.2 (by rw [← e]; exact h), e]
  ·have e : ownRows (x :: l) = x :: ownRows l := by simp [ownRows, isAns, ha]
   rw [e, stFold] at h
   rw [if_neg ha]
   by_cases hb : (stRow x s).2 = true
   ·rw [if_pos hb] at h; cases h
   ·rw [if_neg hb] at h ⊢
    rw [stRows_some l (some x) _ s' _ ho.2 h, e, List.append_assoc]; rfl
theorem stFold_append : ∀ (a b : List Row) (s s' : Sta), stFold a s = some s' → stFold (a ++ b) s = stFold b s'
 | [], b, s, s', h => by cases h; rfl
 | x :: a, b, s, s', h => by
  rw [stFold] at h
  rw [List.cons_append, stFold]
  split at h
  ·cases h
  ·rename_i hb
   rw [if_neg hb]
   exact stFold_append a b _ s' h
structure StaOk (s : Sta) : Prop where
 lots : ∀ l ∈ s.Lots, inI64 l.Id
 lines : ∀ l ∈ s.Lines, inI64 l.Id
theorem stFold_items : ∀ (l : List Itm) (s : Sta), (∀ t ∈ l, keptB t = true) → stFold (l.map itemRow) s = some { s with Items := s.Items ++ l }
 | [], s, _ => by simp [stFold]
 | t :: l, s, h => by
  have e := rItem_at (h t (by simp))
  have e1 : stRow (itemRow t) s = ({ s with Items := s.Items ++ [t] }, false) := by
   unfold stRow
   rw [if_neg (by simp [itemRow]), if_neg (by simp [itemRow]), if_neg (by simp [itemRow]), if_pos (by rfl)]
   show ({ s with Items := s.Items ++ [(rItem (itemVal t) t.Code ⟨0, false⟩).1] }, (rItem (itemVal t) t.Code ⟨0, false⟩).2.bad) = _
   rw [e]
  rw [List.map_cons, stFold, e1, if_neg Bool.false_ne_true, stFold_items l _ fun u hu => h u (by simp [hu])]
  simp
theorem stFold_lots : ∀ (l : List Lot) (s : Sta), (∀ t ∈ l, lotRight t = true ∧ inI64 t.Id) → stFold (l.map lotRow) s = some { s with Lots := s.Lots ++ l }
 | [], s, _ => by simp [stFold]
 | t :: l, s, h => by
  obtain ⟨h1, h2⟩ := h t (by simp)
  have e := rRowLot_at h1
  have e2 : rNum (be t.Id 8) 8 ⟨0, false⟩ = (t.Id, ⟨8, false⟩) := by
   have := (rNum_put8 (b := be t.Id 8) (post := []) (a := 0) h2 (by simp)).1
   simpa using this
  have e1 : stRow (lotRow t) s = ({ s with Lots := s.Lots ++ [t] }, false) := by
   unfold stRow
   rw [if_neg (by simp [lotRow]), if_neg (by simp [lotRow]), if_neg (by simp [lotRow]), if_neg (by simp [lotRow]), if_pos (by rfl)]
   show ({ s with Lots := s.Lots ++ [(rRowLot (lotVal t) (rNum (be t.Id 8) 8 ⟨0, false⟩).1 ⟨0, false⟩).1] }, (rRowLot (lotVal t) (rNum (be t.Id 8) 8 ⟨0, false⟩).1 ⟨0, false⟩).2.bad || (rNum (be t.Id 8) 8 ⟨0, false⟩).2.bad) = _
   rw [e2, e]; rfl
  rw [List.map_cons, stFold, e1, if_neg Bool.false_ne_true, stFold_lots l _ fun u hu => h u (by simp [hu])]
  simp
theorem stFold_lines : ∀ (l : List Line) (s : Sta), (∀ t ∈ l, lineRight t = true ∧ inI64 t.Id) → stFold (l.map lineRow) s = some { s with Lines := s.Lines ++ l }
 | [], s, _ => by simp [stFold]
 | t :: l, s, h => by
  obtain ⟨h1, h2⟩ := h t (by simp)
  have e := rRowLine_at h1
  have e2 : rNum (be t.Id 8) 8 ⟨0, false⟩ = (t.Id, ⟨8, false⟩) := by
   have := (rNum_put8 (b := be t.Id 8) (post := []) (a := 0) h2 (by simp)).1
   simpa using this
  have e1 : stRow (lineRow t) s = ({ s with Lines := s.Lines ++ [t] }, false) := by
   unfold stRow
   rw [if_neg (by simp [lineRow]), if_neg (by simp [lineRow]), if_neg (by simp [lineRow]), if_neg (by simp [lineRow]), if_neg (by simp [lineRow]), if_pos (by rfl)]
   show ({ s with Lines := s.Lines ++ [(rRowLine (lineVal t) (rNum (be t.Id 8) 8 ⟨0, false⟩).1 ⟨0, false⟩).1] }, (rRowLine (lineVal t) (rNum (be t.Id 8) 8 ⟨0, false⟩).1 ⟨0, false⟩).2.bad || (rNum (be t.Id 8) 8 ⟨0, false⟩).2.bad) = _
   rw [e2, e]; rfl
  rw [List.map_cons, stFold, e1, if_neg Bool.false_ne_true, stFold_lines l _ fun u hu => h u (by simp [hu])]
  simp
structure PlainF (s : Sta) : Prop where
 now0 : 0 ≤ s.Now
 now1 : s.Now ≤ 4000
 lot0 : 0 < s.NextLot
 lot1 : s.NextLot ≤ 4611686018427387904
 line0 : 0 < s.NextLine
 line1 : s.NextLine ≤ 4611686018427387904
 items : itemsB s.Items = true
 lots : lotsB s.Lots = true
 lines : linesB s.Lines = true
theorem plain_iff {s : Sta} : plainB s = true ↔ PlainF s := by
 unfold plainB numsB
 simp only [Bool.and_eq_true, decide_eq_true_eq]
 constructor
 ·rintro ⟨⟨⟨⟨⟨⟨a, b⟩, c⟩, d⟩, e⟩, f⟩, g, h, i⟩
  exact ⟨a, b, c, d, e, f, g, h, i⟩
 ·rintro ⟨a, b, c, d, e, f, g, h, i⟩
  exact ⟨⟨⟨⟨⟨⟨a, b⟩, c⟩, d⟩, e⟩, f⟩, g, h, i⟩
theorem stFold_head (s z : Sta) (h : PlainF s) : stFold (headRows s) z = some { z with Now := s.Now, NextLot := s.NextLot, NextLine := s.NextLine } := by
 have d1 : (be s.Now 2).drop 0 = be s.Now 2 ++ [] := by simp
 have d2 : (be s.NextLot 8).drop 0 = be s.NextLot 8 ++ [] := by simp
 have d3 : (be s.NextLine 8).drop 0 = be s.NextLine 8 ++ [] := by simp
 have e1 := (rNum_put (by omega) h.now0 (by have := h.now1; simp; omega) d1).1
 have e2 := (rNum_put8 ⟨by have := h.lot0; omega, by have := h.lot1; omega⟩ d2).1
 have e3 := (rNum_put8 ⟨by have := h.line0; omega, by have := h.line1; omega⟩ d3).1
 have f1 : ∀ z : Sta, stRow ⟨[42, 100, 97, 121], be s.Now 2⟩ z = ({ z with Now := s.Now }, false) := fun z => by
  unfold stRow
  rw [if_pos rfl, e1]
 have f2 : ∀ z : Sta, stRow ⟨[42, 108, 111, 116], be s.NextLot 8⟩ z = ({ z with NextLot := s.NextLot }, false) := fun z => by
  unfold stRow
  rw [if_neg (by simp), if_pos rfl, e2]
 have f3 : ∀ z : Sta, stRow ⟨[42, 108, 105, 110, 101], be s.NextLine 8⟩ z = ({ z with NextLine := s.NextLine }, false) := fun z => by
  unfold stRow
  rw [if_neg (by simp), if_neg (by simp), if_pos rfl, e3]
 simp only [headRows, stFold, f1, f2, f3, Bool.false_eq_true, if_false]
theorem stFold_all {s : Sta} (h : PlainF s) (ho : StaOk s) : stFold (staRows s) staZero = some s := by
 unfold staRows
 rw [stFold_append _ _ _ _ (stFold_head s staZero h), stFold_append _ _ _ _ (stFold_items _ _ (ordB_all h.items)), stFold_append _ _ _ _ (stFold_lots _ _ fun t ht => ⟨ordB_all h.lots t ht, ho.lots t ht⟩), stFold_lines _ _ fun t ht => ⟨ordB_all h.lines t ht, ho.lines t ht⟩]
 simp [staZero]
theorem state_of {s : Sta} (hp : plainB s = true) (ho : StaOk s) {l : List Row} (hk : ordK none l = true) (hl : ownRows l = staRows s) : stateOf l = (s, 0) := by
 unfold stateOf
 rw [stRows_some l none staZero s [] hk (by rw [hl]; exact stFold_all (plain_iff.1 hp) ho)]
 show (if allRows s = [] ++ ownRows l ∧ [] ++ ownRows l ≠ [] then _ else _) = _
 have e : allRows s = staRows s := by unfold allRows; rw [hp]; rfl
 rw [List.nil_append, hl, e, if_pos ⟨rfl, by simp [staRows, headRows]⟩]
theorem lessB_pre (p a b : List UInt8) : lessB (p ++ a) (p ++ b) = lessB a b := by
 induction p with
 | nil => rfl
 | cons c p ih => rw [List.cons_append, List.cons_append, lessB_cc, ih]; simp
theorem beNat_cons (n k : Nat) : be (n : Int) (k + 1) = UInt8.ofNat (n / 256 ^ k % 256) :: be (n : Int) k := by
 rw [be]
 congr 1
 have e1 : (2 : Int) ^ (8 * k) = ((256 ^ k : Nat) : Int) := by rw [Int.pow_mul]; simp
 rw [e1, Int.fdiv_eq_ediv_of_nonneg _ (Int.natCast_nonneg _), ← Int.natCast_ediv]
 apply UInt8.toNat_inj.1
 have h1 := byt_nat ((n / 256 ^ k : Nat) : Int)
 have h2 : (UInt8.ofNat (n / 256 ^ k % 256)).toNat = n / 256 ^ k % 256 := by simp
 rw [h2]
 omega
theorem lessB_be : ∀ (k a b : Nat), lessB (be (a : Int) k) (be (b : Int) k) = decide (a % 256 ^ k < b % 256 ^ k)
 | 0, a, b => by simp [be, lessB_nil, Nat.mod_one]
 | k + 1, a, b => by
  rw [beNat_cons, beNat_cons, lessB_cc, lessB_be k a b]
  have e1 : a % 256 ^ (k + 1) = a % 256 ^ k + 256 ^ k * (a / 256 ^ k % 256) := by rw [Nat.pow_succ, Nat.mod_mul]
  have e2 : b % 256 ^ (k + 1) = b % 256 ^ k + 256 ^ k * (b / 256 ^ k % 256) := by rw [Nat.pow_succ, Nat.mod_mul]
  rw [e1, e2]
  have hp : 0 < 256 ^ k := Nat.pow_pos (by omega)
  have ha := Nat.mod_lt a hp
  have hb := Nat.mod_lt b hp
  have hu : a / 256 ^ k % 256 < 256 := Nat.mod_lt _ (by omega)
  have hv : b / 256 ^ k % 256 < 256 := Nat.mod_lt _ (by omega)
  generalize a / 256 ^ k % 256 = u at *
  generalize b / 256 ^ k % 256 = v at *
  generalize a % 256 ^ k = x at *
  generalize b % 256 ^ k = y at *
  generalize 256 ^ k = m at *
  have lt : (UInt8.ofNat u < UInt8.ofNat v) ↔ u < v := by
   rw [UInt8.lt_iff_toNat_lt]; simp; omega
  have eq : (UInt8.ofNat u == UInt8.ofNat v) = decide (u = v) := by
   rw [Bool.eq_iff_iff, beq_iff_eq, decide_eq_true_eq, ← UInt8.toNat_inj]; simp; omega
  rw [eq, decide_eq_decide.2 lt]
  rcases Nat.lt_trichotomy u v with h | h | h
  ·have h2 : m * (u + 1) ≤ m * v := Nat.mul_le_mul_left _ h
   rw [Nat.mul_add, Nat.mul_one] at h2
   rw [decide_eq_true h, decide_eq_true (show x + m * u < y + m * v by omega)]; rfl
  ·subst h
   rw [decide_eq_false (Nat.lt_irrefl _), decide_eq_true rfl, Bool.false_or, Bool.true_and]
   exact decide_eq_decide.2 (by omega)
  ·have h2 : m * (v + 1) ≤ m * u := Nat.mul_le_mul_left _ h
   rw [Nat.mul_add, Nat.mul_one] at h2
   rw [decide_eq_false (show ¬ u < v by omega), decide_eq_false (show ¬ u = v by omega), decide_eq_false (show ¬ x + m * u < y + m * v by omega)]; rfl
theorem lessB_be8 {a b : Int} (h0 : 0 ≤ a) (h : a < b) (hb : b ≤ 9223372036854775807) : lessB (be a 8) (be b 8) = true := by
 obtain ⟨n, rfl⟩ : ∃ n : Nat, a = n := ⟨a.toNat, by omega⟩
 obtain ⟨m, rfl⟩ : ∃ m : Nat, b = m := ⟨b.toNat, by omega⟩
 rw [lessB_be, decide_eq_true_eq, Nat.mod_eq_of_lt (by simp; omega), Nat.mod_eq_of_lt (by simp; omega)]
 omega
theorem ordB_pw {T : Type} {ok : T → Bool} {lt : T → T → Bool} (tr : ∀ a b c, lt a b = true → lt b c = true → lt a c = true) : ∀ {l : List T} {p : Option T}, ordB ok lt p l = true → l.Pairwise (fun x y => lt x y = true) ∧ ∀ q, p = some q → ∀ x ∈ l, lt q x = true
 | [], _, _ => ⟨.nil, fun q _ x hx => by cases hx⟩
 | a :: l, p, h => by
  rw [ordB] at h
  simp only [Bool.and_eq_true] at h
  obtain ⟨h1, h2⟩ := ordB_pw tr h.2
  refine ⟨List.pairwise_cons.2 ⟨fun x hx => h2 a rfl x hx, h1⟩, fun q hq x hx => ?_⟩
  subst hq
  have hqa : lt q a = true := h.1.2
  rcases List.mem_cons.1 hx with rfl | hx
  ·exact hqa
  ·exact tr _ _ _ hqa (h2 a rfl x hx)
theorem ordK_pw : ∀ {l : List Row} {p : Option Row}, l.Pairwise (fun x y => lessB x.Key y.Key = true) → (∀ x ∈ l, x.Key ≠ []) → (∀ q, p = some q → ∀ x ∈ l, lessB q.Key x.Key = true) → ordK p l = true
 | [], _, _, _, _ => rfl
 | a :: l, p, h1, h2, h3 => by
  obtain ⟨g1, g2⟩ := List.pairwise_cons.1 h1
  rw [ordK, ordK_pw g2 (fun x hx => h2 x (by simp [hx])) (fun q hq x hx => by cases hq; exact g1 x hx), Bool.and_true, Bool.not_eq_true']
  unfold outB
  rw [Bool.or_eq_false_iff]
  refine ⟨?_, decide_eq_false (h2 a (by simp))⟩
  cases p with
  | none => rfl
  | some q =>
   have := cmpB_neg.2 (h3 q rfl a (by simp))
   exact decide_eq_false (by omega)
theorem lessB_head {x y : UInt8} (a b : List UInt8) (h : x < y) : lessB (x :: a) (y :: b) = true := by rw [lessB_cc, decide_eq_true h]; rfl
def bodyRows (s : Sta) : List Row := s.Items.map itemRow ++ (s.Lots.map lotRow ++ s.Lines.map lineRow)
theorem pw_map {T : Type} {R : Row → Row → Prop} {f : T → Row} {S : T → T → Prop} {l : List T} (h : l.Pairwise S) (hf : ∀ x ∈ l, ∀ y ∈ l, S x y → R (f x) (f y)) : (l.map f).Pairwise R := by
 rw [List.pairwise_map]
 exact h.imp_of_mem fun hx hy hs => hf _ hx _ hy hs
theorem body_pw {s : Sta} (h : PlainF s) (ho : StaOk s) : (bodyRows s).Pairwise (fun x y => lessB x.Key y.Key = true) := by
 unfold bodyRows
 have i1 := (ordB_pw (ok := keptB) (lt := fun a b : Itm => lessB a.Code b.Code) (fun a b c => lessB_trans) (p := none) h.items).1
 have i2 := (ordB_pw (ok := lotRight) (lt := fun a b : Lot => decide (a.Id < b.Id)) (fun a b c h1 h2 => by simp only [decide_eq_true_eq] at h1 h2 ⊢; omega) (p := none) h.lots).1
 have i3 := (ordB_pw (ok := lineRight) (lt := fun a b : Line => decide (a.Id < b.Id)) (fun a b c h1 h2 => by simp only [decide_eq_true_eq] at h1 h2 ⊢; omega) (p := none) h.lines).1
 rw [List.pairwise_append]
 refine ⟨pw_map i1 fun x _ y _ hxy => by simpa [itemRow, lessB_cc] using hxy, ?_, ?_⟩
 ·rw [List.pairwise_append]
  refine ⟨pw_map i2 fun x hx y hy hxy => ?_, pw_map i3 fun x hx y hy hxy => ?_, ?_⟩
  ·have h1 := (lotRight_facts (ordB_all h.lots x hx)).1
   have h2 := ho.lots y hy
   simp only [decide_eq_true_eq] at hxy
   have := lessB_be8 (a := x.Id) (b := y.Id) (by omega) hxy h2.2
   simpa [lotRow, lessB_cc] using this
  ·have h1 := (lineRight_facts (ordB_all h.lines x hx)).1
   have h2 := ho.lines y hy
   simp only [decide_eq_true_eq] at hxy
   have := lessB_be8 (a := x.Id) (b := y.Id) (by omega) hxy h2.2
   simpa [lineRow, lessB_cc] using this
  ·intro x hx y hy
   obtain ⟨a, _, rfl⟩ := List.mem_map.1 hx
   obtain ⟨b, _, rfl⟩ := List.mem_map.1 hy
   exact lessB_head _ _ (by decide)
 ·intro x hx y hy
  obtain ⟨a, _, rfl⟩ := List.mem_map.1 hx
  rcases List.mem_append.1 hy with hy | hy
  ·obtain ⟨b, _, rfl⟩ := List.mem_map.1 hy
   exact lessB_head _ _ (by decide)
  ·obtain ⟨b, _, rfl⟩ := List.mem_map.1 hy
   exact lessB_head _ _ (by decide)
theorem body_head {s : Sta} : ∀ x ∈ bodyRows s, ∃ c r, x.Key = c :: r ∧ 97 < c := by
 intro x hx
 simp only [bodyRows, List.mem_append, List.mem_map] at hx
 rcases hx with ⟨a, _, rfl⟩ | ⟨a, _, rfl⟩ | ⟨a, _, rfl⟩
 ·exact ⟨_, _, rfl, by decide⟩
 ·exact ⟨_, _, rfl, by decide⟩
 ·exact ⟨_, _, rfl, by decide⟩
theorem head_head {s : Sta} : ∀ x ∈ headRows s, ∃ c r, x.Key = c :: r ∧ c < 97 := by
 intro x hx
 simp only [headRows, List.mem_cons, List.not_mem_nil, or_false] at hx
 rcases hx with rfl | rfl | rfl
 ·exact ⟨_, _, rfl, by decide⟩
 ·exact ⟨_, _, rfl, by decide⟩
 ·exact ⟨_, _, rfl, by decide⟩
theorem head_pw (s : Sta) : (headRows s).Pairwise (fun x y => lessB x.Key y.Key = true) := by
 simp [headRows, lessB_cc, lessB_nil]
theorem mixed_pw {s : Sta} (h : PlainF s) (ho : StaOk s) {a : List Row} (ha : a.Pairwise (fun x y => lessB x.Key y.Key = true)) (hh : ∀ x ∈ a, ∃ r, x.Key = 97 :: r) : (headRows s ++ (a ++ bodyRows s)).Pairwise (fun x y => lessB x.Key y.Key = true) := by
 rw [List.pairwise_append, List.pairwise_append]
 refine ⟨head_pw s, ⟨ha, body_pw h ho, fun x hx y hy => ?_⟩, fun x hx y hy => ?_⟩
 ·obtain ⟨r, e⟩ := hh x hx
  obtain ⟨c, q, e2, hc⟩ := body_head y hy
  rw [e, e2]; exact lessB_head _ _ hc
 ·obtain ⟨c, q, e, hc⟩ := head_head x hx
  rcases List.mem_append.1 hy with hy | hy
  ·obtain ⟨r, e2⟩ := hh y hy
   rw [e, e2]; exact lessB_head _ _ hc
  ·obtain ⟨d, q2, e2, hd⟩ := body_head y hy
   rw [e, e2]
   exact lessB_head _ _ (UInt8.lt_trans hc hd)
theorem mixed_state {s : Sta} (hp : plainB s = true) (ho : StaOk s) {a : List Row} (ha : a.Pairwise (fun x y => lessB x.Key y.Key = true)) (hh : ∀ x ∈ a, ∃ r, x.Key = 97 :: r) : stateOf (headRows s ++ (a ++ bodyRows s)) = (s, 0) := by
 have h := plain_iff.1 hp
 refine state_of hp ho (ordK_pw (mixed_pw h ho ha hh) (fun x hx => ?_) fun q hq => by cases hq) ?_
 ·rcases List.mem_append.1 hx with hx | hx
  ·obtain ⟨c, r, e, _⟩ := head_head x hx; rw [e]; simp
  ·rcases List.mem_append.1 hx with hx | hx
   ·obtain ⟨r, e⟩ := hh x hx; rw [e]; simp
   ·obtain ⟨c, r, e, _⟩ := body_head x hx; rw [e]; simp
 ·unfold ownRows
  rw [List.filter_append, List.filter_append]
  have e1 : (headRows s).filter (fun x => !isAns x) = headRows s := List.filter_eq_self.2 fun x hx => by
   obtain ⟨c, r, e, hc⟩ := head_head x hx
   have : c ≠ 97 := fun e => by subst e; exact absurd hc (by decide)
   simp [isAns, e, this]
  have e2 : (bodyRows s).filter (fun x => !isAns x) = bodyRows s := List.filter_eq_self.2 fun x hx => by
   obtain ⟨c, r, e, hc⟩ := body_head x hx
   have : c ≠ 97 := fun e => by subst e; exact absurd hc (by decide)
   simp [isAns, e, this]
  have e3 : a.filter (fun x => !isAns x) = [] := List.filter_eq_nil_iff.2 fun x hx => by
   obtain ⟨r, e⟩ := hh x hx
   simp [isAns, e]
  rw [e1, e2, e3]; rfl
theorem keyBad_at {s r : Int} (h : keyBad s r 0 = false) {i : Nat} (hi : i < 1000) : keyBad s r (i : Int) = false := by
 unfold keyBad at h ⊢
 simp only [Bool.or_eq_false_iff, decide_eq_false_iff_not] at h ⊢
 omega
theorem keyP_at {s r : Int} (h : keyBad s r 0 = false) {i : Nat} (hi : i < 1000) : keyP s r (i : Int) = 97 :: byt s :: (be r 8 ++ be (i : Int) 2) := by
 unfold keyP; rw [keyBad_at h hi]; rfl
theorem keyP_nil {s r : Int} : keyP s r 0 = [] ↔ keyBad s r 0 = true := by
 unfold keyP
 cases keyBad s r 0 <;> simp
theorem keyP_ten {s r : Int} (h : keyBad s r 0 = false) {i : Nat} (hi : i < 1000) : (keyP s r (i : Int)).take 10 = 97 :: byt s :: be r 8 := by
 rw [keyP_at h hi]
 simp [List.take_append]
theorem keyP_ten0 {s r : Int} (h : keyBad s r 0 = false) : (keyP s r 0).take 10 = 97 :: byt s :: be r 8 := keyP_ten h (i := 0) (by omega)
theorem mine_piece {s r : Int} (h : keyBad s r 0 = false) (b : List UInt8) {i : Nat} (hi : i < 1000) : mineB s r (pieceRow s r b i) = true := by
 unfold mineB pieceRow
 simp only
 rw [keyP_len (keyBad_at h hi), keyP_ten h hi, keyP_ten0 h]
 simp
theorem mine_not {s r : Int} (h : keyBad s r 0 = false) {x : Row} {c : UInt8} {q : List UInt8} (hx : x.Key = c :: q) (hc : c ≠ 97) : mineB s r x = false := by
 unfold mineB
 rw [keyP_ten0 h, hx, List.take_succ_cons]
 simp [hc]
theorem ansFold_skip {s r : Int} : ∀ (l : List Row) (m : List Row) (b : List UInt8) (n : Nat) (w : Bool), (∀ x ∈ l, mineB s r x = false) → ansFold s r (l ++ m) b n w = ansFold s r m b n w
 | [], m, b, n, w, _ => rfl
 | x :: l, m, b, n, w, h => by
  rw [List.cons_append, ansFold, if_neg (by rw [h x (by simp)]; exact Bool.false_ne_true)]
  exact ansFold_skip l m b n w fun y hy => h y (by simp [hy])
theorem take_piece (b : List UInt8) (k : Nat) : b.take (180 * k) ++ pieceI b k = b.take (180 * (k + 1)) := by
 unfold pieceI
 rw [show 180 * (k + 1) = 180 * k + 180 by omega, List.take_add]
theorem ansFold_pieces {s r : Int} (h : keyBad s r 0 = false) {b : List UInt8} (hb : pieceN b ≤ 1000) : ∀ (m k : Nat) (l : List Row), k + m = pieceN b → ansFold s r ((List.range' k m).map (pieceRow s r b) ++ l) (b.take (180 * k)) k true = ansFold s r l b (k + m) true
 | 0, k, l, hk => by
  have : b.take (180 * k) = b := List.take_of_length_le (by unfold pieceN at hk; omega)
  rw [this]; rfl
 | m + 1, k, l, hk => by
  have hlt : k < pieceN b := by omega
  have hbl := pieceN_lt.1 hlt
  rw [List.range'_succ, List.map_cons, List.cons_append, ansFold, if_pos (mine_piece h b (by omega))]
  have e1 : b.take (180 * k) ++ (pieceRow s r b k).Value = b.take (180 * (k + 1)) := take_piece b k
  have e2 : wholeB s r (b.take (180 * k)) k (pieceRow s r b k) = true := by
   unfold wholeB pieceRow pieceI
   simp only [Bool.and_eq_true, decide_eq_true_eq, List.length_take, List.length_drop]
   refine ⟨⟨⟨?_, ?_⟩, ?_⟩, ?_⟩ <;> first | trivial | omega
  rw [e1, e2, Bool.true_and]
  have := ansFold_pieces h hb m (k + 1) l (by omega)
  rw [this]
  congr 1
  omega
theorem ans_head {s r : Int} (h : keyBad s r 0 = false) {b : List UInt8} (hb : pieceN b ≤ 1000) : ∀ x ∈ (List.range (pieceN b)).map (pieceRow s r b), ∃ q, x.Key = 97 :: q := by
 intro x hx
 obtain ⟨i, hi, rfl⟩ := List.mem_map.1 hx
 exact ⟨_, keyP_at h (by have := List.mem_range.1 hi; omega)⟩
theorem ans_pw {s r : Int} (h : keyBad s r 0 = false) {b : List UInt8} (hb : pieceN b ≤ 1000) : ((List.range (pieceN b)).map (pieceRow s r b)).Pairwise (fun x y => lessB x.Key y.Key = true) := by
 refine pw_map (S := fun a b => a < b) List.pairwise_lt_range fun i hi j hj hij => ?_
 have h1 := List.mem_range.1 hi
 have h2 := List.mem_range.1 hj
 show lessB (keyP s r i) (keyP s r j) = true
 rw [keyP_at h (by omega), keyP_at h (by omega), lessB_cc, lessB_cc, lessB_pre, lessB_be, Nat.mod_eq_of_lt (by simp; omega), Nat.mod_eq_of_lt (by simp; omega)]
 simp [hij]
theorem tellGet_nil : (tellGet []).2.2 ≠ 0 := fun h => by
 obtain ⟨_, _, _, h1, h2⟩ := tell_whole h
 simp at h1
 omega
theorem tellPut_zero {t : TellP} (h : (tellPut t).2 = 0) : tellRight t = true := by
 unfold tellPut at h
 cases hr : tellRight t with
 | true => rfl
 | false => rw [if_pos hr] at h; cases h
theorem pieceN_tell (t : TellP) : pieceN (tellPut t).1 ≤ 1000 := by
 have := tellPut_len t
 unfold pieceN; omega
theorem ansRows_eq {s r : Int} {t : TellP} (he : (tellPut t).2 = 0) (hk : keyBad s r 0 = false) : ansRows s r t = ((List.range (pieceN (tellPut t).1)).map (pieceRow s r (tellPut t).1), 0) := by
 unfold ansRows
 rw [if_neg]
 rintro (e | e)
 ·exact e he
 ·rw [keyP_nil, hk] at e; cases e
theorem ansRows_bad {s r : Int} {t : TellP} (h : ¬ ((tellPut t).2 = 0 ∧ keyBad s r 0 = false)) : ansRows s r t = ([], 2) := by
 unfold ansRows
 rw [if_pos]
 by_cases he : (tellPut t).2 = 0
 ·right
  rw [keyP_nil]
  cases hk : keyBad s r 0 with
  | true => rfl
  | false => exact absurd ⟨he, hk⟩ h
 ·exact .inl he
theorem ansRows_ok (s r : Int) (t : TellP) : (∀ x ∈ (ansRows s r t).1, ∃ q, x.Key = 97 :: q) ∧ (ansRows s r t).1.Pairwise (fun x y => lessB x.Key y.Key = true) ∧ (ansRows s r t).1.length ≤ 1000 ∧ (∀ x ∈ (ansRows s r t).1, x.Key.length = 12 ∧ x.Value.length ≤ 180) := by
 by_cases h : (tellPut t).2 = 0 ∧ keyBad s r 0 = false
 ·rw [ansRows_eq h.1 h.2]
  refine ⟨ans_head h.2 (pieceN_tell t), ans_pw h.2 (pieceN_tell t), by simpa using pieceN_tell t, fun x hx => ?_⟩
  obtain ⟨i, hi, rfl⟩ := List.mem_map.1 hx
  have := List.mem_range.1 hi
  have := pieceN_tell t
  refine ⟨keyP_len (keyBad_at h.2 (by omega)), ?_⟩
  simp only [pieceRow, pieceI, List.length_take]
  omega
 ·rw [ansRows_bad h]
  exact ⟨by simp, .nil, by simp, by simp⟩
theorem tellGet_put {t : TellP} (he : (tellPut t).2 = 0) (ho : t.ok) : tellGet (tellPut t).1 = (t, (tellPut t).1.length, 0) := by
 have := tell_back (tellPut_zero he) ho []
 rwa [List.append_nil] at this
theorem answered_mixed {s r : Int} {t : TellP} (ho : t.ok) {u v : List Row} (hu : ∀ x ∈ u, ∃ c q, x.Key = c :: q ∧ c ≠ 97) (hv : ∀ x ∈ v, ∃ c q, x.Key = c :: q ∧ c ≠ 97) :
  answered s r (u ++ ((ansRows s r t).1 ++ v)) = if (ansRows s r t).2 = 0 then (t, true) else (tellZero, false) := by
 cases hk : keyBad s r 0 with
 | true =>
  unfold answered
  rw [if_pos (keyP_nil.2 hk), ansRows_bad (by rw [hk]; rintro ⟨_, h⟩; cases h), if_neg (by simp)]
 | false =>
  unfold answered
  rw [if_neg (by rw [keyP_nil, hk]; exact Bool.false_ne_true)]
  have su : ∀ x ∈ u, mineB s r x = false := fun x hx => by
   obtain ⟨c, q, e, hc⟩ := hu x hx
   exact mine_not hk e hc
  have sv : ∀ x ∈ v, mineB s r x = false := fun x hx => by
   obtain ⟨c, q, e, hc⟩ := hv x hx
   exact mine_not hk e hc
  rw [ansFold_skip u _ _ _ _ su]
  have tailE : ∀ b n w, ansFold s r v b n w = (b, w) := fun b n w => by
   have := ansFold_skip v [] b n w sv
   rw [List.append_nil] at this
   rw [this]; rfl
  by_cases he : (tellPut t).2 = 0
  ·rw [ansRows_eq he hk, if_pos rfl, List.range_eq_range']
   have := ansFold_pieces hk (pieceN_tell t) (pieceN (tellPut t).1) 0 v (by omega)
   rw [Nat.mul_zero, List.take_zero] at this
   simp only
   rw [this, tailE]
   unfold ansEnd
   simp only
   rw [tellGet_put he ho]
   simp
  ·rw [ansRows_bad (fun h => he h.1), if_neg (by simp)]
   simp only [List.nil_append]
   rw [tailE]
   unfold ansEnd
   rw [if_neg]
   rintro ⟨_, e, _⟩
   exact tellGet_nil e
def smallI : Itm := ⟨[65], 5, [], []⟩
def smallL : Lot := ⟨1, [65], 3, 8, 5, true⟩
def smallS : Sta := ⟨3, 2, 1, [smallI], [smallL], []⟩
theorem small_n : StaN smallS 2 := ⟨by simp [smallS], fun t ht => by rw [List.mem_singleton.1 ht]; exact ⟨Nat.zero_le _, Nat.zero_le _⟩⟩
theorem small_ok : StaOk smallS := ⟨by simp [smallS, smallL, inI64], by simp [smallS]⟩
theorem small_rows : allRows smallS = [⟨[42, 100, 97, 121], [0, 3]⟩, ⟨[42, 108, 105, 110, 101], [0, 0, 0, 0, 0, 0, 0, 1]⟩, ⟨[42, 108, 111, 116], [0, 0, 0, 0, 0, 0, 0, 2]⟩, ⟨[105, 65], [0, 5, 0, 0]⟩, ⟨[108, 0, 0, 0, 0, 0, 0, 0, 1], [1, 65, 0, 3, 0, 8, 0, 0, 0, 5, 1]⟩] := by decide +kernel
theorem small_plain : plainB smallS = true := by decide +kernel
theorem rows_split (s : Sta) (h : plainB s = true) : allRows s = headRows s ++ bodyRows s := by unfold allRows; rw [h]; rfl
theorem all_state {s : Sta} (hp : plainB s = true) (ho : StaOk s) : stateOf (allRows s) = (s, 0) := by
 rw [rows_split s hp]
 exact mixed_state hp ho (a := []) .nil (by simp)
def fiveT : TellP := ⟨5, 0, 0, [], 0, [], []⟩
theorem five_rows : ansRows 1 7 fiveT = ([⟨[97, 1, 0, 0, 0, 0, 0, 0, 0, 7, 0, 0], [0, 5]⟩], 0) := by decide +kernel
theorem five_ok : fiveT.ok := ⟨by simp [fiveT, inI64], by simp [fiveT], by simp [fiveT]⟩
theorem five_back : answered 1 7 (ansRows 1 7 fiveT).1 = (fiveT, true) := by
 have := answered_mixed (s := 1) (r := 7) five_ok (u := []) (v := []) (by simp) (by simp)
 rw [List.nil_append, List.append_nil] at this
 rw [this, five_rows]; rfl
def law16_small.Spec (C : CSem) (N : Nat → Nat) : Prop := ∀ (h : AHeap) (Q : AVal → AHeap → Prop), (∀ x P y z h', P.map (·.1) = smallS.Items → Owns h h' (StaO smallS x P y z) → Q (.agg (staCs smallS x y z)) h') → C (N 422) [] h Q
theorem law16_small.spec (i : law16_small.Imp C N) : law16_small.Spec C N := by
 intro h Q hq
 apply i
 simp -dsimp
 intro i2 h2
 have o1 := (Owns.start h).newSl (id := i2) (n := 1) (cp := 1) (es := 4) (cs := [.str [65], .int .i64 5, .nils, .nils]) (L := [itemK.cs (smallI, (.nils, .nils))]) (R := []) h2 (fun p hp => by rw [List.mem_singleton.1 hp]; rfl) rfl (by simp) rfl
 generalize upd h i2 (blkOf _) = h1 at *
 simp -dsimp
 intro i5 h5
 have o2 := o1.newSl (id := i5) (n := 1) (cp := 1) (es := 6) (cs := smallL.cs) (L := [smallL.cs]) (R := []) h5 (by simp) rfl (by simp) (by simp)
 have o3 := ((o2.nils 8).nils 2).nils 1
 simp -dsimp
 exact dn_same (hq _ [(smallI, (.nils, .nils))] _ _ _ rfl o3)
def law16_awake.Spec (C : CSem) (N : Nat → Nat) : Prop := ∀ (h : AHeap) (Q : AVal → AHeap → Prop), Q (.bool true) h → C (N 418) [] h Q
theorem law16_awake.spec (i : law16_awake.Imp C N) (s1 : law16_small.Spec C N) (s2 : row_All.Spec C N) (s3 : row_State.Spec C N) (s4 : row_Answer.Spec C N) (s5 : row_Answered.Spec C N) (s6 : kit_SameBytes.SpecL C N) (s7 : kit_SameState.Spec C N) : law16_awake.Spec C N := by
 intro h Q hq
 apply i
 simp -dsimp only [law16_awake.cps, law16_awake.k1]
 refine s1 _ _ fun x P y z h1 eP o1 => ?_
 have a1 : StaAt h1 smallS x y z := StaO.at o1 (fun o ho => ho) eP small_n (by omega)
 refine s2 _ _ _ _ _ _ a1 (by simp [smallS]) fun r R h2 eR o2 => ?_
 have dr : Dl rowK h2 r (allRows smallS) := by
  rw [← eR]
  exact Df.dl o2 fun p hp => allRows_ok (s := smallS) _ (by rw [← eR]; exact List.mem_map.2 ⟨p, hp, rfl⟩)
 have lr := dr.lenSl
 rw [show (allRows smallS).length = 5 by rw [small_rows]; rfl] at lr
 have hst := all_state small_plain small_ok
 simp -dsimp [lr]
 refine s3 r _ h2 _ dr (by rw [small_rows]; simp) fun x3 P3 y3 z3 h3 eP3 hN3 o3 => ?_
 rw [hst] at eP3 hN3 o3 ⊢
 have a3 : StaAt h3 smallS x3 y3 z3 := StaO.at o3 (fun o ho => ho) eP3 small_n (by omega)
 have c1 := a3.items.isCell
 have c2 : y3.isCell = true := a3.lots.elim fun _ r => r.isCell
 have c3 : z3.isCell = true := a3.lines.elim fun _ r => r.isCell
 simp -dsimp
 have ht : TellAt h3 fiveT .nils .nils := ⟨⟨[], SlX.nils h3 6⟩, ⟨[], SlX.nils h3 3⟩⟩
 refine s4 1 7 fiveT .nils .nils h3 _ ht (by simp [fiveT]) (by simp [fiveT]) fun a A h4 eA o4 => ?_
 have da : Dl rowK h4 a (ansRows 1 7 fiveT).1 := by
  rw [← eA]
  exact Df.dl o4 fun p hp => by
   have : p.1 ∈ (ansRows 1 7 fiveT).1 := by rw [← eA]; exact List.mem_map.2 ⟨p, hp, rfl⟩
   have := (ansRows_ok 1 7 fiveT).2.2.2 p.1 this
   show p.1.Key.length ≤ far ∧ p.1.Value.length ≤ far
   unfold far; omega
 simp -dsimp
 refine s5 1 7 a _ h4 _ da (by rw [five_rows]; simp) (by rw [five_rows]; simp [valLen]) fun u v h5 o5 => ?_
 rw [five_back] at o5 ⊢
 have e5 : (ansRows 1 7 fiveT).2 = 0 := by rw [five_rows]
 rw [e5]
 rw [five_rows] at da
 have le35 : h3.le h5 := AHeap.le_trans o4.le o5.le
 have dr5 := dr.mono (AHeap.le_trans o3.le le35)
 rw [small_rows] at dr5
 have da5 := da.mono o5.le
 obtain ⟨k0, v0, e01, e02, e03, e04, e05, e06, b01, b02⟩ := row_get dr5 (i := 0) rfl
 obtain ⟨k4, v4, e41, e42, e43, e44, e45, e46, b41, b42⟩ := row_get dr5 (i := 4) rfl
 obtain ⟨ka, va, ea1, ea2, ea3, ea4, ea5, ea6, ba1, ba2⟩ := row_get da5 (i := 0) rfl
 obtain ⟨Rk, q0⟩ := b01.1
 have e01 : V.idxS 2 r (.int .i64 0) = some (elp 2 r 0 0) := e01
 have ea1 : V.idxS 2 a (.int .i64 0) = some (elp 2 a 0 0) := ea1
 have e41 : V.idxS 2 r (.int .i64 4) = some (elp 2 r 4 0) := e41
 have cu : u.isCell = true := (o5.slAt 0 rfl).isCell
 have cv : v.isCell = true := (o5.slAt 1 rfl).isCell
 have la := da5.lenSl
 simp -dsimp [fiveT, e01, e03, e05, bytesStr_bc q0, e41, e43, e45]
 refine litPiece 9 (s := [108, 0, 0, 0, 0, 0, 0, 0, 1]) rfl rfl fun i39 h6 o6 => ?_
 simp -dsimp
 refine s6 k4 _ _ _ h6 _ (b41.mono o6.le) ⟨⟨[], o6.slAt 0 rfl⟩, by simp [far]⟩ ?_
 have e46 := ldv_le o6.le e46
 simp -dsimp [e41, e44, e46]
 refine litPiece 11 (s := [1, 65, 0, 3, 0, 8, 0, 0, 0, 5, 1]) rfl rfl fun i47 h7 o7 => ?_
 simp -dsimp
 refine s6 v4 _ _ _ h7 _ ((b42.mono o6.le).mono o7.le) ⟨⟨[], o7.slAt 0 rfl⟩, by simp [far]⟩ ?_
 simp -dsimp
 refine s1 _ _ fun x8 P8 y8 z8 h8 eP8 o8 => ?_
 have a8 : StaAt h8 smallS x8 y8 z8 := StaO.at o8 (fun o ho => ho) eP8 small_n (by omega)
 have le38 : h3.le h8 := AHeap.le_trans le35 (AHeap.le_trans o6.le (AHeap.le_trans o7.le o8.le))
 simp -dsimp
 refine s7 smallS smallS _ _ _ _ _ _ h8 _ (a3.mono le38) a8 ?_
 have le58 : h5.le h8 := AHeap.le_trans o6.le (AHeap.le_trans o7.le o8.le)
 have ea5 := ldv_le le58 ea5
 simp -dsimp [la, ea1, ea3, ea5]
 refine litPiece 12 (s := [97, 1, 0, 0, 0, 0, 0, 0, 0, 7, 0, 0]) rfl rfl fun i73 h9 o9 => ?_
 simp -dsimp
 refine s6 ka _ _ _ h9 _ ((ba1.mono le58).mono o9.le) ⟨⟨[], o9.slAt 0 rfl⟩, by simp [far]⟩ ?_
 simp -dsimp
 have az : StaAt h9 staZero .nils .nils .nils := ⟨Dl.nils itemK h9, ⟨[], SlX.nils h9 6⟩, ⟨[], SlX.nils h9 8⟩, by simp [staZero], by simp [staZero], by simp [staZero]⟩
 refine s2 staZero _ _ _ h9 _ az (by simp [staZero]) fun r2 R2 h10 eR2 o10 => ?_
 have ez : allRows staZero = [] := by decide +kernel
 rw [ez] at eR2
 have eR2 : R2 = [] := List.map_eq_nil_iff.1 eR2
 subst eR2
 have lz := (o10.slAt 0 rfl : SlX h10 2 r2 [] []).lenSl
 simp -dsimp [lz]
 refine dn_le ?_ hq
 exact AHeap.le_trans o1.le (AHeap.le_trans o2.le (AHeap.le_trans o3.le (AHeap.le_trans le38 (AHeap.le_trans o9.le o10.le))))
def diffV : List Row → List Row → Nat
 | a :: l, b :: m => (if a.Value = b.Value then 0 else 1) + diffV l m
 | _, _ => 0
theorem diffV_self : ∀ l : List Row, diffV l l = 0
 | [] => rfl
 | a :: l => by rw [diffV, if_pos rfl, diffV_self l]
theorem diffV_set : ∀ (l : List Row) (i : Nat) (r r' : Row), l[i]? = some r → r'.Value ≠ r.Value → diffV l (l.set i r') = 1
 | a :: l, 0, r, r', h, hv => by
  cases h
  rw [List.set_cons_zero, diffV, if_neg (Ne.symm hv), diffV_self]
 | a :: l, i + 1, r, r', h, hv => by
  rw [List.set_cons_succ, diffV, if_pos rfl, diffV_set l i r r' h hv]
theorem keys_set : ∀ (l : List Row) (i : Nat) (r r' : Row), l[i]? = some r → r'.Key = r.Key → (l.set i r').map Row.Key = l.map Row.Key
 | [], i, r, r', h, hk => by simp at h
 | a :: l, 0, r, r', h, hk => by cases h; simp [hk]
 | a :: l, i + 1, r, r', h, hk => by
  rw [List.set_cons_succ, List.map_cons, List.map_cons, keys_set l i r r' h hk]
def oneRow (s t : Sta) : Prop := t = s ∨ ∃ i r r', (allRows s)[i]? = some r ∧ allRows t = (allRows s).set i r' ∧ r'.Key = r.Key ∧ r'.Value ≠ r.Value
theorem oneRow.law {s t : Sta} (h : oneRow s t) : (allRows t).map Row.Key = (allRows s).map Row.Key ∧ (diffV (allRows s) (allRows t) = 1 ∨ diffV (allRows s) (allRows t) = 0 ∧ t = s) := by
 rcases h with rfl | ⟨i, r, r', h1, h2, h3, h4⟩
 ·exact ⟨rfl, .inr ⟨diffV_self _, rfl⟩⟩
 ·rw [h2]
  exact ⟨keys_set _ _ _ _ h1 h3, .inl (diffV_set _ _ _ _ h1 h4)⟩
theorem be_inj {n m : Int} {k : Nat} (hk : k ≤ 8) (h : be n k = be m k) : n % (256 ^ k : Nat) = m % (256 ^ k : Nat) := by
 rw [← be_val n k hk, ← be_val m k hk, h]
theorem allRows_plain {s : Sta} (h : plainB s = true) : allRows s = staRows s := by unfold allRows; rw [h]; rfl
theorem one_now {s : Sta} (h : plainB s = true) : oneRow s { s with Now := (s.Now + 1).tmod 4001 } := by
 have p := plain_iff.1 h
 have h0 := p.now0
 have h1 := p.now1
 have e : (s.Now + 1).tmod 4001 = (s.Now + 1) % 4001 := Int.tmod_eq_emod_of_nonneg (by omega)
 have hp : plainB { s with Now := (s.Now + 1).tmod 4001 } = true := plain_iff.2 ⟨by simp only [e]; omega, by simp only [e]; omega, p.lot0, p.lot1, p.line0, p.line1, p.items, p.lots, p.lines⟩
 refine .inr ⟨0, ⟨[42, 100, 97, 121], be s.Now 2⟩, ⟨[42, 100, 97, 121], be ((s.Now + 1).tmod 4001) 2⟩, by rw [allRows_plain h]; rfl, by rw [allRows_plain h, allRows_plain hp]; rfl, rfl, fun he => ?_⟩
 have := be_inj (by omega) he
 rw [e] at this
 simp at this
 omega
theorem one_lot {s : Sta} (h : plainB s = true) : oneRow s { s with NextLot := 1 + s.NextLot.tmod 1000 } := by
 have p := plain_iff.1 h
 have h0 := p.lot0
 have h1 := p.lot1
 have e : s.NextLot.tmod 1000 = s.NextLot % 1000 := Int.tmod_eq_emod_of_nonneg (by omega)
 by_cases hs : 1 + s.NextLot.tmod 1000 = s.NextLot
 ·left; rw [hs]
 have hp : plainB { s with NextLot := 1 + s.NextLot.tmod 1000 } = true := plain_iff.2 ⟨p.now0, p.now1, by simp only [e]; omega, by simp only [e]; omega, p.line0, p.line1, p.items, p.lots, p.lines⟩
 refine .inr ⟨2, ⟨[42, 108, 111, 116], be s.NextLot 8⟩, ⟨[42, 108, 111, 116], be (1 + s.NextLot.tmod 1000) 8⟩, by rw [allRows_plain h]; rfl, by rw [allRows_plain h, allRows_plain hp]; rfl, rfl, fun he => ?_⟩
 have := be_inj (by omega) he
 rw [e] at this hs
 simp at this
 omega
theorem one_line {s : Sta} (h : plainB s = true) : oneRow s { s with NextLine := 1 + s.NextLine.tmod 1000 } := by
 have p := plain_iff.1 h
 have h0 := p.line0
 have h1 := p.line1
 have e : s.NextLine.tmod 1000 = s.NextLine % 1000 := Int.tmod_eq_emod_of_nonneg (by omega)
 by_cases hs : 1 + s.NextLine.tmod 1000 = s.NextLine
 ·left; rw [hs]
 have hp : plainB { s with NextLine := 1 + s.NextLine.tmod 1000 } = true := plain_iff.2 ⟨p.now0, p.now1, p.lot0, p.lot1, by simp only [e]; omega, by simp only [e]; omega, p.items, p.lots, p.lines⟩
 refine .inr ⟨1, ⟨[42, 108, 105, 110, 101], be s.NextLine 8⟩, ⟨[42, 108, 105, 110, 101], be (1 + s.NextLine.tmod 1000) 8⟩, by rw [allRows_plain h]; rfl, by rw [allRows_plain h, allRows_plain hp]; rfl, rfl, fun he => ?_⟩
 have := be_inj (by omega) he
 rw [e] at this hs
 simp at this
 omega
theorem ordB_set {T : Type} {ok : T → Bool} {lt : T → T → Bool} {x x' : T} (hok : ok x' = true) (h1 : ∀ y, lt y x' = lt y x) (h2 : ∀ y, lt x' y = lt x y) : ∀ {l : List T} {p : Option T} {k : Nat}, l[k]? = some x → ordB ok lt p l = true → ordB ok lt p (l.set k x') = true
 | [], _, _, h, _ => by simp at h
 | a :: l, p, 0, h, ho => by
  cases h
  rw [ordB] at ho
  simp only [Bool.and_eq_true] at ho
  rw [List.set_cons_zero, ordB]
  simp only [Bool.and_eq_true]
  refine ⟨⟨hok, ?_⟩, ?_⟩
  ·cases p with
   | none => rfl
   | some q => have := ho.1.2; simp only [prevB] at this ⊢; rw [h1]; exact this
  ·cases l with
   | nil => rfl
   | cons b l =>
    have := ho.2
    rw [ordB] at this ⊢
    simp only [Bool.and_eq_true, prevB] at this ⊢
    rw [h2]; exact this
 | a :: l, p, k + 1, h, ho => by
  rw [ordB] at ho
  simp only [Bool.and_eq_true] at ho
  rw [List.set_cons_succ, ordB]
  simp only [Bool.and_eq_true]
  exact ⟨ho.1, ordB_set hok h1 h2 h ho.2⟩
theorem get_staRows_item {s : Sta} {k : Nat} {t : Itm} (h : s.Items[k]? = some t) : (staRows s)[3 + k]? = some (itemRow t) ∧ ∀ t', staRows { s with Items := s.Items.set k t' } = (staRows s).set (3 + k) (itemRow t') := by
 have hk := (List.getElem?_eq_some_iff.1 h).1
 constructor
 ·unfold staRows
  rw [List.getElem?_append_right (by simp [headRows])]
  rw [List.getElem?_append_left (by simp [headRows]; omega)]
  rw [show 3 + k - (headRows s).length = k by simp [headRows], List.getElem?_map, h]; rfl
 ·intro t'
  unfold staRows
  rw [List.set_append_right _ _ (by simp [headRows]), List.set_append_left _ _ (by simp [headRows]; omega), show 3 + k - (headRows s).length = k by simp [headRows], ← List.map_set]
  rfl
theorem get_staRows_lot {s : Sta} {k : Nat} {t : Lot} (h : s.Lots[k]? = some t) : (staRows s)[3 + (s.Items.length + k)]? = some (lotRow t) ∧ ∀ t', staRows { s with Lots := s.Lots.set k t' } = (staRows s).set (3 + (s.Items.length + k)) (lotRow t') := by
 have hk := (List.getElem?_eq_some_iff.1 h).1
 have e1 : 3 + (s.Items.length + k) - (headRows s).length = s.Items.length + k := by simp [headRows]
 have e2 : s.Items.length + k - (s.Items.map itemRow).length = k := by simp
 constructor
 ·unfold staRows
  rw [List.getElem?_append_right (by simp [headRows]), e1, List.getElem?_append_right (by simp), e2, List.getElem?_append_left (by simpa using hk), List.getElem?_map, h]; rfl
 ·intro t'
  unfold staRows
  rw [List.set_append_right _ _ (by simp [headRows]), e1, List.set_append_right _ _ (by simp), e2, List.set_append_left _ _ (by simpa using hk), ← List.map_set]
  rfl
theorem get_staRows_line {s : Sta} {k : Nat} {t : Line} (h : s.Lines[k]? = some t) : (staRows s)[3 + (s.Items.length + (s.Lots.length + k))]? = some (lineRow t) ∧ ∀ t', staRows { s with Lines := s.Lines.set k t' } = (staRows s).set (3 + (s.Items.length + (s.Lots.length + k))) (lineRow t') := by
 have hk := (List.getElem?_eq_some_iff.1 h).1
 have e1 : 3 + (s.Items.length + (s.Lots.length + k)) - (headRows s).length = s.Items.length + (s.Lots.length + k) := by simp [headRows]
 have e2 : s.Items.length + (s.Lots.length + k) - (s.Items.map itemRow).length = s.Lots.length + k := by simp
 have e3 : s.Lots.length + k - (s.Lots.map lotRow).length = k := by simp
 constructor
 ·unfold staRows
  rw [List.getElem?_append_right (by simp [headRows]), e1, List.getElem?_append_right (by simp), e2, List.getElem?_append_right (by simp), e3, List.getElem?_map, h]; rfl
 ·intro t'
  unfold staRows
  rw [List.set_append_right _ _ (by simp [headRows]), e1, List.set_append_right _ _ (by simp), e2, List.set_append_right _ _ (by simp), e3, ← List.map_set]
  rfl
theorem one_item {s : Sta} (h : plainB s = true) {k : Nat} {t : Itm} (ht : s.Items[k]? = some t) : oneRow s { s with Items := s.Items.set k { t with Others := [] } } := by
 have p := plain_iff.1 h
 have hm := List.mem_of_getElem? ht
 have hk := ordB_all (ok := keptB) p.items t hm
 by_cases ho : t.Others = []
 ·left
  have : ({ t with Others := [] } : Itm) = t := by cases t; simp only at ho; rw [ho]
  rw [this]
  have e : s.Items.set k t = s.Items := by
   obtain ⟨hl, hv⟩ := List.getElem?_eq_some_iff.1 ht
   rw [← hv]; exact List.set_getElem_self hl
  rw [e]
 have hk' : keptB { t with Others := [] } = true := by
  obtain ⟨k1, k2, k3, k4, k5⟩ := kept_facts hk
  unfold keptB at hk ⊢
  simp only [Bool.and_eq_true] at hk ⊢
  refine ⟨?_, hk.2⟩
  simp [codedB, k4]
 have hp : plainB { s with Items := s.Items.set k { t with Others := [] } } = true := plain_iff.2 ⟨p.now0, p.now1, p.lot0, p.lot1, p.line0, p.line1, ordB_set (x := t) (ok := keptB) (lt := fun a b : Itm => lessB a.Code b.Code) hk' (fun _ => rfl) (fun _ => rfl) ht p.items, p.lots, p.lines⟩
 obtain ⟨g1, g2⟩ := get_staRows_item ht
 refine .inr ⟨3 + k, itemRow t, itemRow { t with Others := [] }, by rw [allRows_plain h]; exact g1, by rw [allRows_plain h, allRows_plain hp]; exact g2 _, rfl, fun he => ?_⟩
 obtain ⟨k1, k2, k3, k4, k5⟩ := kept_facts hk
 have he : itemVal { t with Others := [] } = itemVal t := he
 unfold itemVal at he
 have he := List.append_cancel_left he
 have he := (List.cons.inj he).2
 have he := List.append_cancel_left he
 have he := (List.cons.inj he).1
 have b1 := byt_small (n := t.Others.length) (by omega)
 have b2 := byt_small (n := 0) (by omega)
 have : (byt ((0 : Nat) : Int)).toNat = (byt (t.Others.length : Int)).toNat := congrArg UInt8.toNat he
 rw [b1, b2] at this
 exact ho (List.length_eq_zero_iff.1 this.symm)
theorem one_lotA {s : Sta} (h : plainB s = true) {k : Nat} {t : Lot} (ht : s.Lots[k]? = some t) : oneRow s { s with Lots := s.Lots.set k { t with Arrived := !t.Arrived } } := by
 have p := plain_iff.1 h
 have hk := ordB_all (ok := lotRight) p.lots t (List.mem_of_getElem? ht)
 have hk' : lotRight { t with Arrived := !t.Arrived } = true := hk
 have hp : plainB { s with Lots := s.Lots.set k { t with Arrived := !t.Arrived } } = true := plain_iff.2 ⟨p.now0, p.now1, p.lot0, p.lot1, p.line0, p.line1, p.items, ordB_set (x := t) (ok := lotRight) (lt := fun a b : Lot => decide (a.Id < b.Id)) hk' (fun _ => rfl) (fun _ => rfl) ht p.lots, p.lines⟩
 obtain ⟨g1, g2⟩ := get_staRows_lot ht
 refine .inr ⟨_, lotRow t, lotRow { t with Arrived := !t.Arrived }, by rw [allRows_plain h]; exact g1, by rw [allRows_plain h, allRows_plain hp]; exact g2 _, rfl, fun he => ?_⟩
 have he : lotVal { t with Arrived := !t.Arrived } = lotVal t := he
 unfold lotVal at he
 have he := List.append_cancel_left he
 have he := List.append_cancel_left he
 have he := List.append_cancel_left he
 have he := List.append_cancel_left he
 cases hA : t.Arrived <;> simp [hA] at he
theorem one_lineR {s : Sta} (h : plainB s = true) {k : Nat} {t : Line} (ht : s.Lines[k]? = some t) : oneRow s { s with Lines := s.Lines.set k { t with Rank := (t.Rank + 1).tmod 100 } } := by
 have p := plain_iff.1 h
 have hk := ordB_all (ok := lineRight) p.lines t (List.mem_of_getElem? ht)
 obtain ⟨f1, f2, f3, f4, f5, f6, f7, f8, f9, f10, f11⟩ := lineRight_facts hk
 have e : (t.Rank + 1).tmod 100 = (t.Rank + 1) % 100 := Int.tmod_eq_emod_of_nonneg (by omega)
 have hk' : lineRight { t with Rank := (t.Rank + 1).tmod 100 } = true := by
  unfold lineRight at hk ⊢
  simp only [Bool.and_eq_true, decide_eq_true_eq] at hk ⊢
  refine ⟨⟨hk.1.1, ?_⟩, hk.2⟩
  rw [e]
  omega
 have hp : plainB { s with Lines := s.Lines.set k { t with Rank := (t.Rank + 1).tmod 100 } } = true := plain_iff.2 ⟨p.now0, p.now1, p.lot0, p.lot1, p.line0, p.line1, p.items, p.lots, ordB_set (x := t) (ok := lineRight) (lt := fun a b : Line => decide (a.Id < b.Id)) hk' (fun _ => rfl) (fun _ => rfl) ht p.lines⟩
 obtain ⟨g1, g2⟩ := get_staRows_line ht
 refine .inr ⟨_, lineRow t, lineRow { t with Rank := (t.Rank + 1).tmod 100 }, by rw [allRows_plain h]; exact g1, by rw [allRows_plain h, allRows_plain hp]; exact g2 _, rfl, fun he => ?_⟩
 have he : lineVal { t with Rank := (t.Rank + 1).tmod 100 } = lineVal t := he
 unfold lineVal at he
 have he := List.append_cancel_left he
 have he := List.append_cancel_left he
 have he := List.append_cancel_left he
 have he := (List.cons.inj he).1
 have b1 := byt_nat t.Rank
 have b2 := byt_nat ((t.Rank + 1).tmod 100)
 have : (byt ((t.Rank + 1).tmod 100)).toNat = (byt t.Rank).toNat := congrArg UInt8.toNat he
 rw [e] at b2 this
 omega
def kit_Pick.Spec (C : CSem) (N : Nat → Nat) : Prop := ∀ (a m : Int) (h : AHeap) (Q : AVal → AHeap → Prop), 0 < m → m ≤ 4611686018427387904 → (∀ n : Int, 0 ≤ n → n < m → Q (.int .i64 n) h) → C (N 155) [.int .i64 a, .int .i64 m] h Q
theorem kit_Pick.spec (i : kit_Pick.Imp C N) : kit_Pick.Spec C N := by
 intro a m h Q h1 h2 hq
 apply i
 have k1 := Int.tmod_lt_of_pos a h1
 have k2 := Int.lt_tmod_of_pos a h1
 have hm : m ≠ 0 := by omega
 simp -dsimp [hm, show ¬ m < 1 by omega]
 refine B.cond_bool (fun hb => ?_) (fun hb => ?_) <;> simp -dsimp at hb ⊢
 ·rw [wrap_i64 (by omega) (by omega)]
  exact dn_same (hq _ (by omega) (by omega))
 ·exact dn_same (hq _ hb k1)
theorem diffV_snoc (x y : Row) : ∀ {a b : List Row}, a.length = b.length → diffV (a ++ [x]) (b ++ [y]) = diffV a b + if x.Value = y.Value then 0 else 1
 | [], [], _ => by simp [diffV]
 | c :: a, d :: b, h => by
  rw [List.cons_append, List.cons_append, diffV, diffV, diffV_snoc x y (by simpa using h)]
  omega
theorem diffV_le : ∀ a b : List Row, diffV a b ≤ a.length
 | [], _ => by simp [diffV]
 | _ :: _, [] => by simp [diffV]
 | x :: a, y :: b => by
  have := diffV_le a b
  rw [diffV, List.length_cons]
  split <;> omega
theorem RowOne_end (s1 : kit_SameBytes.SpecL C N) (s2 : kit_SameState.Spec C N) {s t : Sta} {x y z u v w r q : AVal} {hh : AHeap} {Q : AVal → AHeap → Prop} (hl : oneRow s t) (hs : StaAt hh s x y z) (ht : StaAt hh t u v w) (hr : Dl rowK hh r (allRows s)) (hq' : Dl rowK hh q (allRows t)) (hlen : (allRows s).length ≤ 100000)
  (hq : Q (.bool true) hh) : law16_RowOne.k4 C N Q r q (.agg (staCs s x y z)) (.agg (staCs t u v w)) hh := by
 obtain ⟨hk, hd⟩ := hl.law
 have hel : (allRows t).length = (allRows s).length := by have := congrArg List.length hk; simpa using this
 have lr := hr.lenSl
 have lq := hq'.lenSl
 rw [hel] at lq
 simp -dsimp [lr, lq]
 refine LoopR.intro (fun n vs h3 => h3 = hh ∧ ∃ k : Nat, k + n = (allRows s).length ∧ vs = [.int .i64 (diffV ((allRows s).take k) ((allRows t).take k) : Int), .int .i64 (k : Int)]) (allRows s).length ?_ ⟨rfl, 0, by omega, rfl⟩
 rintro Y n vs h3 ⟨rfl, k, hn, rfl⟩ hY
 simp -dsimp only [law16_RowOne.l3, law16_RowOne.k2, lr, lssN, B.pv_some]
 refine B.cond_bool (fun hc => ?_) (fun hc => ?_)
 ·rw [decide_eq_true_eq] at hc
  obtain ⟨a, ha⟩ := get_lt hc
  obtain ⟨b, hb⟩ := get_lt (L := allRows t) (k := k) (by omega)
  have hk1 := add1 (show k < 4611686018427387904 by omega)
  have hkey : a.Key = b.Key := by
   have h1 : ((allRows s).map Row.Key)[k]? = some a.Key := get_map ha
   have h2 : ((allRows t).map Row.Key)[k]? = some b.Key := get_map hb
   rw [hk, h1] at h2
   exact Option.some.inj h2
  have hst : diffV ((allRows s).take (k + 1)) ((allRows t).take (k + 1)) = diffV ((allRows s).take k) ((allRows t).take k) + if a.Value = b.Value then 0 else 1 := by
   rw [take_succ ha, take_succ hb, diffV_snoc _ _ (by simp; omega)]
  have hdl := diffV_le ((allRows s).take k) ((allRows t).take k)
  rw [List.length_take] at hdl
  obtain ⟨ka, va, e1, e2, e3, e4, e5, e6, a1, a2⟩ := row_get hr ha
  obtain ⟨kb, vb, f1, f2, f3, f4, f5, f6, b1, b2⟩ := row_get hq' hb
  simp -dsimp only [e1, e3, e5, f1, f3, f5, B.ld_eq, B.pv_some]
  refine s1 _ _ _ _ _ _ a1 b1 ?_
  rw [decide_eq_true hkey]
  simp -dsimp only [V.un_not, Bool.not_true, B.cond_false, e1, e4, e6, f1, f4, f6, B.ld_eq, B.pv_some]
  refine s1 _ _ _ _ _ _ a2 b2 ?_
  simp -dsimp only [V.un_not, B.pv_some]
  refine B.cond_bool (fun hv => ?_) (fun hv => ?_)
  ·have hv : ¬ a.Value = b.Value := by simpa using hv
   simp -dsimp only [add1 (show diffV ((allRows s).take k) ((allRows t).take k) < 4611686018427387904 by omega), hk1, B.pv_some]
   refine hY (n - 1) _ _ (by omega) ⟨rfl, k + 1, by omega, ?_⟩
   rw [hst, if_neg hv]
  ·have hv : a.Value = b.Value := by simpa using hv
   simp -dsimp only [hk1, B.pv_some]
   refine hY (n - 1) _ _ (by omega) ⟨rfl, k + 1, by omega, ?_⟩
   rw [hst, if_pos hv]; rfl
 ·rw [decide_eq_false_iff_not] at hc
  have : k = (allRows s).length := by omega
  subst this
  rw [List.take_length, List.take_of_length_le (by omega)]
  rcases hd with e | ⟨e, rfl⟩
  ·rw [e]
   simp -dsimp
   exact hq
  ·rw [e]
   simp -dsimp
   refine s2 _ _ _ _ _ _ _ _ _ _ hs ht ?_
   simp -dsimp
   exact hq
theorem sta_item {h0 hh : AHeap} {s : Sta} {x y z : AVal} {P : List (Itm × (AVal × AVal))} (e : P.map (·.1) = s.Items) {c : Nat} (hn : StaN s c) (hc : c ≤ 100000000) {k : Nat} {t : Itm} {a : AVal × AVal} (hk : P[k]? = some (t, a))
  (o : Owns h0 hh (.sl 4 x ((P.map itemK.cs).set k [.str t.Code, .int .i64 t.Life, a.1, .nils]) [] :: .sl 6 y (s.Lots.map Lot.cs) [] :: .sl 8 z (s.Lines.map Line.cs) [] :: itemK.os false P)) : StaAt hh { s with Items := s.Items.set k { t with Others := [] } } x y z := by
 obtain ⟨n, ok⟩ := hn
 have hkl : k < P.length := (List.getElem?_eq_some_iff.1 hk).1
 have hat : ∀ p ∈ P, itemK.at_ hh p.1 p.2 := fun p hp => itemK.ofObs (b := false) (ok _ (by rw [← e]; exact List.mem_map.2 ⟨p, hp, rfl⟩)) fun ob ho => o.is ob (by
  refine List.mem_cons_of_mem _ (List.mem_cons_of_mem _ (List.mem_cons_of_mem _ ?_))
  exact List.mem_flatMap.2 ⟨p, hp, ho⟩)
 refine ⟨⟨P.set k ({ t with Others := [] }, (a.1, .nils)), [], ?_, ?_, fun p hp => ?_⟩, ⟨[], o.is (.sl 6 y (s.Lots.map Lot.cs) []) (by simp)⟩, ⟨[], o.is (.sl 8 z (s.Lines.map Line.cs) []) (by simp)⟩, by simp; omega, by simp only; omega, by simp only; omega⟩
 ·rw [List.map_set, e]
 ·rw [List.map_set]
  exact o.slAt 0 rfl
 ·rcases List.mem_or_eq_of_mem_set hp with hp | rfl
  ·exact hat p hp
  ·obtain ⟨h1, h2, h3⟩ : (∃ R, SlX hh 2 a.1 (t.Parts.map Part.cs) R) ∧ (∃ R, SlX hh 1 a.2 (t.Others.map tc) R) ∧ t.ok := hat (t, a) (List.mem_of_getElem? hk)
   exact ⟨h1, ⟨[], SlX.nils hh 1⟩, h3.1, Nat.zero_le _⟩
theorem tmod_rem {a b : Int} (hb : b ≠ 0) : V.bin .rem (.int .i64 a) (.int .i64 b) = some (.int .i64 (a.tmod b)) := V.bin_rem _ _ _ hb
theorem allLen {s : Sta} {n : Nat} (h : s.Items.length + s.Lots.length + s.Lines.length ≤ n) : (allRows s).length ≤ n + 3 := by
 unfold allRows
 cases plainB s <;> simp [staRows, headRows]
 omega
def law16_RowOne.Spec (C : CSem) (N : Nat → Nat) : Prop := ∀ (s : Sta) (x y z : AVal) (pick what : Int) (h : AHeap) (Q : AVal → AHeap → Prop), StaW h s x y z → Q (.bool true) h → C (N 421) [.agg (staCs s x y z), .int .i64 pick, .int .i64 what] h Q
theorem law16_RowOne.spec (i : law16_RowOne.Imp C N) (s0 : law16_awake.Spec C N) (s1 : law16_great.Spec C N) (s2 : row_All.Spec C N) (s3 : kit_CopyState.Spec C N) (s4 : kit_Pick.Spec C N) (s5 : kit_SameBytes.SpecL C N) (s6 : kit_SameState.Spec C N) : law16_RowOne.Spec C N := by
 intro s x y z pick what h Q ha hq
 have cx := ha.items.isCell
 have cy : y.isCell = true := ha.lots.elim fun _ r => r.isCell
 have cz : z.isCell = true := ha.lines.elim fun _ r => r.isCell
 have hT : dn Q (.bool true) h := dn_same hq
 apply i
 simp -dsimp
 refine s0 h _ ?_
 simp -dsimp
 refine s1 s x y z h _ ha fun b1 hb1 => ?_
 cases b1 with
 | true => simp -dsimp; exact hT
 | false =>
 have hB := hb1 rfl
 have hat := hB.at ha
 have hn := hB.n
 simp -dsimp
 refine s2 s x y z h _ hat (by omega) fun r R h1 eR o1 => ?_
 have dr : Dl rowK h1 r (allRows s) := by
  rw [← eR]
  exact Df.dl o1 fun p hp => allRows_ok (s := s) _ (by rw [← eR]; exact List.mem_map.2 ⟨p, hp, rfl⟩)
 have hrl := allLen (s := s) (n := 2000) hn
 simp -dsimp
 refine s3 s x y z h1 _ (hat.mono o1.le) fun x' P y' z' h2 eP o2 => ?_
 have hle2 : h.le h2 := AHeap.le_trans o1.le o2.le
 have dr2 := dr.mono o2.le
 have lr := dr2.lenSl
 have hN : StaN s 2000 := ⟨hn, fun t ht => by have := hB.ok t ht; unfold Itm.ok few; omega⟩
 have hat2 : StaAt h2 s x' y' z' := StaO.at o2 (fun o ho => ho) eP hN (by omega)
 have cx' := hat2.items.isCell
 have cy' : y'.isCell = true := hat2.lots.elim fun _ r => r.isCell
 have cz' : z'.isCell = true := hat2.lines.elim fun _ r => r.isCell
 simp -dsimp [lr]
 cases hp : plainB s with
 | false =>
  have e : allRows s = [] := by unfold allRows; rw [hp]; rfl
  simp -dsimp [e]
  exact dn_le hle2 hq
 | true =>
 have hpl := plain_iff.1 hp
 have en : allRows s ≠ [] := by rw [allRows_plain hp]; simp [staRows, headRows]
 simp -dsimp [en]
 have fin : ∀ (t : Sta) (u v w : AVal) (h3 : AHeap), h1.le h3 → oneRow s t → t.Items.length + t.Lots.length + t.Lines.length ≤ 2000 → StaAt h3 t u v w →
   C (N 412) [.agg (staCs t u v w)] h3 (fun v107 h => law16_RowOne.k4 C N (dn Q) r v107 (.agg (staCs s x y z)) (.agg (staCs t u v w)) h) := by
  intro t u v w h3 hle3 hone hlen ht
  refine s2 t u v w h3 _ ht (by omega) fun q T h4 eT o4 => ?_
  have dq : Dl rowK h4 q (allRows t) := by
   rw [← eT]
   exact Df.dl o4 fun p hp => allRows_ok (s := t) _ (by rw [← eT]; exact List.mem_map.2 ⟨p, hp, rfl⟩)
  have hle4 := AHeap.le_trans hle3 o4.le
  exact RowOne_end s5 s6 hone (hat.mono (AHeap.le_trans o1.le hle4)) (ht.mono o4.le) (dr.mono hle4) dq (by omega) (dn_le (AHeap.le_trans o1.le hle4) hq)
 refine s4 what 6 h2 _ (by omega) (by omega) fun n hn0 hn6 => ?_
 have a1 : IntKind.i64.wrap (s.Now + 1) = s.Now + 1 := by have := hpl.now0; have := hpl.now1; rw [wrap_i64 (by omega) (by omega)]
 have m1 : s.NextLot.tmod 1000 < 1000 := Int.tmod_lt_of_pos _ (by omega)
 have m2 : 0 ≤ s.NextLot.tmod 1000 := Int.tmod_nonneg _ (by have := hpl.lot0; omega)
 have m3 : s.NextLine.tmod 1000 < 1000 := Int.tmod_lt_of_pos _ (by omega)
 have m4 : 0 ≤ s.NextLine.tmod 1000 := Int.tmod_nonneg _ (by have := hpl.line0; omega)
 have a2 : IntKind.i64.wrap (1 + s.NextLot.tmod 1000) = 1 + s.NextLot.tmod 1000 := wrap_i64 (by omega) (by omega)
 have a3 : IntKind.i64.wrap (1 + s.NextLine.tmod 1000) = 1 + s.NextLine.tmod 1000 := wrap_i64 (by omega) (by omega)
 by_cases n0 : n = 0
 ·subst n0
  simp -dsimp [a1]
  exact fin { s with Now := (s.Now + 1).tmod 4001 } x' y' z' h2 o2.le (one_now hp) hn ⟨hat2.items, hat2.lots, hat2.lines, hat2.n1, hat2.n2, hat2.n3⟩
 by_cases n1 : n = 1
 ·subst n1
  simp -dsimp [a2]
  exact fin { s with NextLot := 1 + s.NextLot.tmod 1000 } x' y' z' h2 o2.le (one_lot hp) hn ⟨hat2.items, hat2.lots, hat2.lines, hat2.n1, hat2.n2, hat2.n3⟩
 by_cases n2 : n = 2
 ·subst n2
  simp -dsimp [a3]
  exact fin { s with NextLine := 1 + s.NextLine.tmod 1000 } x' y' z' h2 o2.le (one_line hp) hn ⟨hat2.items, hat2.lots, hat2.lines, hat2.n1, hat2.n2, hat2.n3⟩
 have same : C (N 412) [.agg (staCs s x' y' z')] h2 (fun v107 h => law16_RowOne.k4 C N (dn Q) r v107 (.agg (staCs s x y z)) (.agg (staCs s x' y' z')) h) := fin s x' y' z' h2 o2.le (.inl rfl) hn hat2
 have l1 := hat2.items.lenSl
 have l2 : V.lenSl y' = some (.int .i64 (s.Lots.length : Int)) := hat2.lots.elim fun _ r => by have := r.lenSl; rwa [List.length_map] at this
 have l3 : V.lenSl z' = some (.int .i64 (s.Lines.length : Int)) := hat2.lines.elim fun _ r => by have := r.lenSl; rwa [List.length_map] at this
 by_cases n3 : n = 3
 ·subst n3
  simp -dsimp [l1]
  refine B.cond_bool (fun hc => ?_) (fun hc => ?_)
  ·have hcl : 0 < s.Items.length := by simpa using hc
   simp -dsimp [l1]
   refine s4 pick _ h2 _ (by omega) (by omega) fun m hm0 hm1 => ?_
   obtain ⟨m, rfl⟩ : ∃ k : Nat, m = k := ⟨m.toNat, by omega⟩
   have hmP : m < P.length := by have := congrArg List.length eP; rw [List.length_map] at this; omega
   obtain ⟨⟨t, a⟩, hPm⟩ := get_lt hmP
   have ht : s.Items[m]? = some t := by rw [← eP, List.getElem?_map, hPm]; rfl
   have hidx : V.idxS 4 x' (.int .i64 (m : Int)) = some (elp 4 x' m 0) := (o2.slAt 0 rfl : SlX h2 4 x' (P.map itemK.cs) []).idxN (by simpa using hmP)
   have hfa : V.fieldAddr 3 (elp 4 x' m 0) = some (elp 4 x' m 3) := (o2.slAt 0 rfl : SlX h2 4 x' (P.map itemK.cs) []).fieldA (by simpa using hmP) 0 3
   simp -dsimp only [hidx, hfa, B.pv_some]
   refine o2.st 0 rfl (get_map hPm) (by decide) rfl fun h3 o3 _ => ?_
   have hst : StaAt h3 { s with Items := s.Items.set m { t with Others := [] } } x' y' z' := sta_item eP hN (by omega) hPm o3
   simp -dsimp
   exact fin { s with Items := s.Items.set m { t with Others := [] } } x' y' z' h3 o3.le (one_item hp ht) (by simpa using hn) hst
  ·simp -dsimp
   exact same
 by_cases n4 : n = 4
 ·subst n4
  simp -dsimp [l2]
  refine B.cond_bool (fun hc => ?_) (fun hc => ?_)
  ·have hcl : 0 < s.Lots.length := by simpa using hc
   simp -dsimp [l2]
   refine s4 pick _ h2 _ (by omega) (by omega) fun m hm0 hm1 => ?_
   obtain ⟨m, rfl⟩ : ∃ k : Nat, m = k := ⟨m.toNat, by omega⟩
   obtain ⟨t, ht⟩ := get_lt (L := s.Lots) (k := m) (by omega)
   have sy : SlX h2 6 y' (s.Lots.map Lot.cs) [] := o2.slAt 1 rfl
   have hml : m < (s.Lots.map Lot.cs).length := by simp; omega
   have hidx : V.idxS 6 y' (.int .i64 (m : Int)) = some (elp 6 y' m 0) := sy.idxN hml
   have hfa : V.fieldAddr 5 (elp 6 y' m 0) = some (elp 6 y' m 5) := sy.fieldA hml 0 5
   have hld : A.ldv h2 (elp 6 y' m 5) = some (.bool t.Arrived) := sy.ldv (get_map ht) (by omega)
   have hnc : ∀ K : AVal → Prop, (B.nilCheck (elp 6 y' m 0) K : Prop) = K (elp 6 y' m 0) := fun K => by
    rcases sy.at_ with ⟨e, _⟩ | ⟨id, g, off, cp, b, hi, h1, _⟩
    ·rw [e] at hml; simp at hml
    ·subst h1; rfl
   simp -dsimp only [hidx, hnc, hfa, hld, B.ld_eq, B.pv_some, V.un_not]
   refine o2.st 1 rfl (get_map ht) (by decide) rfl fun h3 o3 _ => ?_
   have e3 : (s.Lots.map Lot.cs).set m (t.cs.set 5 (.bool !t.Arrived)) = (s.Lots.set m { t with Arrived := !t.Arrived }).map Lot.cs := by rw [List.map_set]; rfl
   rw [e3] at o3
   have hst : StaAt h3 { s with Lots := s.Lots.set m { t with Arrived := !t.Arrived } } x' y' z' := StaO.at (P := P) o3 (fun o ho => ho) eP (k := 2000) ⟨by simpa using hn, hN.ok⟩ (by omega)
   simp -dsimp
   exact fin { s with Lots := s.Lots.set m { t with Arrived := !t.Arrived } } x' y' z' h3 o3.le (one_lotA hp ht) (by simpa using hn) hst
  ·simp -dsimp
   exact same
 ·simp -dsimp [l3, n0, n1, n2, n3, n4]
  refine B.cond_bool (fun hc => ?_) (fun hc => ?_)
  ·have hcl : 0 < s.Lines.length := by simpa using hc
   simp -dsimp [l3]
   refine s4 pick _ h2 _ (by omega) (by omega) fun m hm0 hm1 => ?_
   obtain ⟨m, rfl⟩ : ∃ k : Nat, m = k := ⟨m.toNat, by omega⟩
   obtain ⟨t, ht⟩ := get_lt (L := s.Lines) (k := m) (by omega)
   have sy : SlX h2 8 z' (s.Lines.map Line.cs) [] := o2.slAt 2 rfl
   have hml : m < (s.Lines.map Line.cs).length := by simp; omega
   have hidx : V.idxS 8 z' (.int .i64 (m : Int)) = some (elp 8 z' m 0) := sy.idxN hml
   have hfa : V.fieldAddr 4 (elp 8 z' m 0) = some (elp 8 z' m 4) := sy.fieldA hml 0 4
   have hld : A.ldv h2 (elp 8 z' m 4) = some (.int .i64 t.Rank) := sy.ldv (get_map ht) (by omega)
   have hnc : ∀ K : AVal → Prop, (B.nilCheck (elp 8 z' m 0) K : Prop) = K (elp 8 z' m 0) := fun K => by
    rcases sy.at_ with ⟨e, _⟩ | ⟨id, g, off, cp, b, hi, h1, _⟩
    ·rw [e] at hml; simp at hml
    ·subst h1; rfl
   obtain ⟨_, _, _, _, _, _, q7, q8, _⟩ := lineRight_facts (ordB_all (ok := lineRight) hpl.lines t (List.mem_of_getElem? ht))
   have ew : V.bin .add (.int .i64 t.Rank) (.int .i64 1) = some (.int .i64 (t.Rank + 1)) := by rw [V.bin_add, wrap_i64 (by omega) (by omega)]
   simp -dsimp only [hidx, hnc, hfa, hld, ew, tmod_rem (a := t.Rank + 1) (b := 100) (by omega), B.ld_eq, B.pv_some]
   refine o2.st 2 rfl (get_map ht) (by decide) rfl fun h3 o3 _ => ?_
   have e3 : (s.Lines.map Line.cs).set m (t.cs.set 4 (.int .i64 ((t.Rank + 1).tmod 100))) = (s.Lines.set m { t with Rank := (t.Rank + 1).tmod 100 }).map Line.cs := by rw [List.map_set]; rfl
   rw [e3] at o3
   have hst : StaAt h3 { s with Lines := s.Lines.set m { t with Rank := (t.Rank + 1).tmod 100 } } x' y' z' := StaO.at (P := P) o3 (fun o ho => ho) eP (k := 2000) ⟨by simpa using hn, hN.ok⟩ (by omega)
   simp -dsimp
   exact fin { s with Lines := s.Lines.set m { t with Rank := (t.Rank + 1).tmod 100 } } x' y' z' h3 o3.le (one_lineR hp ht) (by simpa using hn) hst
  ·simp -dsimp
   exact same
theorem dLotA {H : AHeap} {p : List AVal} (h : AbsOk H tyLot p) : ∃ w : Lot, p = w.cs ∧ w.Item.length < 4611686018427387904 ∧ w.ok := by
 obtain ⟨a, r, rfl, ⟨n1, rfl, m1, m2⟩, ⟨b, r2, rfl, ⟨n2, rfl, k⟩, ⟨c, r3, rfl, hw, ⟨d, r4, rfl, ⟨n4, rfl, m3, m4⟩, ⟨e, r5, rfl, ⟨n5, rfl⟩, hr⟩⟩⟩⟩⟩ := h
 cases hr
 obtain ⟨w, rfl⟩ := dWindow hw
 exact ⟨⟨n1, n2, w.From, w.Until, n4, n5⟩, rfl, by unfold reach at k; show n2.length < _; omega, i64_of m1 m2, i64_of m3 m4⟩
theorem dLotsA {H : AHeap} {v : AVal} (h : AbsOk H (.sl 56 6 tyLot) [v]) : ∃ L : List Lot, SlIs H 6 v (L.map Lot.cs) ∧ L.length < 1000000000000000000 ∧ ∀ l ∈ L, l.Item.length < 4611686018427387904 ∧ l.ok := by
 obtain ⟨L, h1, h2, h3⟩ := arg_sliceP Lot.cs (fun l => l.Item.length < 4611686018427387904 ∧ l.ok) (fun p hp => dLotA hp) h
 exact ⟨L, h1, by unfold reach at h2; omega, h3⟩
theorem dLineA {H : AHeap} {p : List AVal} (h : AbsOk H tyLine p) : ∃ w : Line, p = w.cs ∧ (w.Item.length < 4611686018427387904 ∧ w.Code.length < 4611686018427387904) ∧ inI64 w.Id := by
 obtain ⟨a, r, rfl, ⟨n1, rfl, m1, m2⟩, ⟨b, r2, rfl, ⟨n2, rfl, q1⟩, ⟨c, r3, rfl, ⟨n3, rfl, _⟩, ⟨d, r4, rfl, ⟨n4, rfl, _⟩, ⟨e, r5, rfl, ⟨n5, rfl, _⟩, ⟨f, r6, rfl, ⟨n6, rfl, k1, k2⟩, ⟨g, r7, rfl, ⟨n7, rfl, _⟩, ⟨i, r8, rfl, ⟨n8, rfl, q2⟩, hr⟩⟩⟩⟩⟩⟩⟩⟩ := h
 cases hr
 refine ⟨⟨n1, n2, n3, n4, n5, UInt8.ofNat n6.toNat, n7, n8⟩, ?_, ⟨by unfold reach at q1; show n2.length < _; omega, by unfold reach at q2; show n8.length < _; omega⟩, i64_of m1 m2⟩
 rw [Line.cs, u8_of k1 k2]; rfl
theorem dLinesA {H : AHeap} {v : AVal} (h : AbsOk H (.sl 80 8 tyLine) [v]) : ∃ L : List Line, SlIs H 8 v (L.map Line.cs) ∧ L.length < 1000000000000000000 ∧ ∀ l ∈ L, (l.Item.length < 4611686018427387904 ∧ l.Code.length < 4611686018427387904) ∧ inI64 l.Id := by
 obtain ⟨L, h1, h2, h3⟩ := arg_sliceP Line.cs (fun l => (l.Item.length < 4611686018427387904 ∧ l.Code.length < 4611686018427387904) ∧ inI64 l.Id) (fun p hp => dLineA hp) h
 exact ⟨L, h1, by unfold reach at h2; omega, h3⟩
abbrev tySta : List Ty := [.i .i64, .i .i64, .i .i64, .sl 72 4 tyItem, .sl 56 6 tyLot, .sl 80 8 tyLine]
theorem dState {H : AHeap} {p : List AVal} (h : AbsOks H tySta p) : ∃ (s : Sta) (x y z : AVal), p = staCs s x y z ∧ StaW H s x y z ∧ StaOk s := by
 obtain ⟨a, r, rfl, ⟨n1, rfl, _⟩, ⟨b, r2, rfl, ⟨n2, rfl, _⟩, ⟨c, r3, rfl, ⟨n3, rfl, _⟩, ⟨d, r4, rfl, h4, ⟨e, r5, rfl, h5, ⟨f, r6, rfl, h6, hr⟩⟩⟩⟩⟩⟩ := h
 cases hr
 obtain ⟨x, rfl⟩ := absSl1 h4
 obtain ⟨y, rfl⟩ := absSl1 h5
 obtain ⟨z, rfl⟩ := absSl1 h6
 obtain ⟨I, i1, i2, i3⟩ := dItems h4
 obtain ⟨O, j1, j2, j3⟩ := dLotsA h5
 obtain ⟨L, l1, l2, l3⟩ := dLinesA h6
 exact ⟨⟨n1, n2, n3, I, O, L⟩, x, y, z, rfl, ⟨i1, ⟨[], j1⟩, ⟨[], l1⟩, i2, j2, l2, i3⟩, ⟨fun l hl => (j3 l hl).2.1, fun l hl => (l3 l hl).2⟩⟩
end Go.Ab
