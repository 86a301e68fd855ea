/- What is proved: a part of the way to the statement: Cflow3, Cflow3b, Cflow4, Cleast, Crank3, Ckit2, Ckit3, Ckit4, Ckit5, Rlaw09, Claw09, Cleast2, Cleast3, Cleast4, Cleast5, Cleast6, Cleast7, Pflow2, Pflow3, Cflow5, Cref05, Cref05b, Cref05c, Pflow4, Cref05d, Cref06, Pflow5, C01e, P01, P01b, Rlaw01, C01f, C01g, C01h, Pleast, P04, Claw04c, Ctell4, Rlaw14, Claw14, Claw04z, Claw04y, Claw06, Claw06b, Claw06c, Claw06d, Rlaw05, Claw05, Claw05b, Claw05c, Claw06e, AcR3, AcR4. No conditions. -/
import Derived.Test.YteckamcjoodjfaaQ8
import Derived.Test.YteckamcjoodjfaaQ6
import Derived.Test.YteckamcjoodjfaaQ3
set_option linter.unusedVariables false
set_option linter.unusedSimpArgs false
namespace Go.Ab
variable {C : CSem} {N : Nat → Nat}
abbrev Gp := List UInt8 × AVal × List Lot
def gOb (g : Gp) : Ob := .sl 6 g.2.1 (g.2.2.map Lot.cs) []
abbrev kI (n : Int) : AVal := .int .i64 n
abbrev kS (s : List UInt8) : AVal := .str s
abbrev vI (n : Int) : AVal := .int .i64 n
abbrev vA (x : AVal) : AVal := x
theorem lotQty (l : Lot) : V.field1 4 (.agg l.cs) = some (.int .i64 l.Qty) := by simp
theorem lotItem (l : Lot) : V.field1 1 (.agg l.cs) = some (.str l.Item) := by simp
theorem lotDays (l : Lot) : V.fieldN 2 2 (.agg l.cs) = some (.agg [.int .i64 l.From, .int .i64 l.Until]) := by simp
theorem setWant (w : Want) : V.setN 0 3 (.agg w.cs) (.agg [.str [], .int .i64 0, .int .i64 0]) = some (.agg w.cs) := by simp
theorem wantQty (w : Want) : V.field1 2 (.agg w.cs) = some (.int .i64 w.Qty) := by simp
theorem wantItem (w : Want) : V.field1 0 (.agg w.cs) = some (.str w.Item) := by simp
theorem wantDay (w : Want) : V.field1 1 (.agg w.cs) = some (.int .i64 w.Day) := by simp
theorem fillLot1 (a : Lot) : fillL [(0, some 6, .agg a.cs)] (repL 1 [.int .i64 0, .str [], .int .i64 0, .int .i64 0, .int .i64 0, .bool false]) = some a.cs := by simp [repL]
theorem fillUse1 (a : Use) : fillL [(0, some 3, .agg a.cs)] (repL 1 [.int .i64 0, .int .i64 0, .int .i64 0]) = some a.cs := by simp [repL]
theorem bldUse (a b c : Int) : A.bld [(0, none, .int .i64 a), (1, none, .int .i64 b), (2, none, .int .i64 c)] [.int .i64 0, .int .i64 0, .int .i64 0] = some (.agg (Use.cs ⟨a, b, c⟩)) := by simp [A.bld]
structure Groups (S : List Lot) (k : Nat) (psI : Ents (List UInt8) AVal) (G : List Gp) : Prop where
 get : ∀ s, getP psI s = (G.find? fun g => decide (g.1 = s)).map (·.2.1)
 nd : (G.map (·.1)).Nodup
 lots : ∀ g ∈ G, g.2.2 = (S.take k).filter fun l => decide (l.Item = g.1)
 none_ : ∀ s, s ∉ G.map (·.1) → ((S.take k).filter fun l => decide (l.Item = s)) = []
theorem find_set {G : List Gp} (hn : (G.map (·.1)).Nodup) {j : Nat} {g g' : Gp} (hj : G[j]? = some g) (he : g'.1 = g.1) (s : List UInt8) : ((G.set j g').find? fun g => decide (g.1 = s)) = if s = g.1 then some g' else G.find? fun g => decide (g.1 = s) := by
 induction G generalizing j with
 | nil => simp at hj
 | cons a G ih =>
  simp only [List.map_cons, List.nodup_cons] at hn
  cases j with
  | zero =>
   simp at hj; subst hj
   simp only [List.set_cons_zero, List.find?_cons, he]
   by_cases e : s = a.1
   ·subst e; simp
   ·simp [e, Ne.symm e]
  | succ j =>
   simp at hj
   simp only [List.set_cons_succ, List.find?_cons]
   have hne : a.1 ≠ g.1 := fun e => hn.1 (by rw [e]; exact List.mem_map_of_mem (List.mem_of_getElem? hj))
   rw [ih hn.2 hj]
   by_cases e : a.1 = s
   ·subst e; simp [hne]
   ·simp [e]
theorem find_at {G : List Gp} (hn : (G.map (·.1)).Nodup) {j : Nat} {g : Gp} (hj : G[j]? = some g) : (G.find? fun x => decide (x.1 = g.1)) = some g := by
 have := find_set hn hj (g' := g) rfl g.1
 rw [if_pos rfl] at this
 rw [← this]
 congr 1
 apply List.ext_getElem?
 intro i
 rw [List.getElem?_set]
 split
 ·rename_i e; subst e
  split
  ·exact hj
  ·rename_i h; exact absurd (List.getElem?_eq_some_iff.1 hj).1 h
 ·rfl
theorem Groups.old {S : List Lot} {k : Nat} {psI : Ents (List UInt8) AVal} {G : List Gp} (gr : Groups S k psI G) (hk : k < S.length) {j : Nat} {g : Gp} (hj : G[j]? = some g) (he : g.1 = S[k].Item) (x : AVal) (c : Nat) :
  Groups S (k + 1) (putP psI S[k].Item x c) (G.set j (g.1, x, g.2.2 ++ [S[k]])) where
 get s := by
  rw [getP_put, find_set gr.nd hj (by rfl)]
  by_cases e : s = S[k].Item
  ·subst e; rw [if_pos rfl, if_pos he.symm]; rfl
  ·rw [if_neg e, if_neg (by rw [he]; exact e)]; exact gr.get s
 nd := by
  have : (G.set j (g.1, x, g.2.2 ++ [S[k]])).map (·.1) = G.map (·.1) := by
   rw [List.map_set]
   apply List.ext_getElem?
   intro i
   rw [List.getElem?_set]
   split
   ·rename_i e; subst e
    have := (List.getElem?_eq_some_iff.1 hj).1
    rw [if_pos (by simpa using this), List.getElem?_map, hj]; rfl
   ·rfl
  rw [this]; exact gr.nd
 lots q hq := by
  rw [take_one hk, List.filter_append]
  rcases List.mem_or_eq_of_mem_set hq with hq' | rfl
  ·rw [← gr.lots q hq']
   by_cases e : S[k].Item = q.1
   ·
    obtain ⟨i, hi, e2⟩ := List.getElem_of_mem hq
    rw [List.getElem_set] at e2
    split at e2
    ·rename_i hji
     subst e2
     have : g ∈ G := List.mem_of_getElem? hj
     have hgl := gr.lots g this
     exfalso
     have := gr.lots _ hq'
     simp only at this
     rw [hgl] at this
     have hl := congrArg List.length this
     simp at hl
    ·rename_i hji
     have hi' : i < G.length := by simpa using hi
     obtain ⟨hj', hjg⟩ := List.getElem?_eq_some_iff.1 hj
     have := nodup_inj gr.nd (i := j) (j := i) (by simpa using hj') (by simpa using hi') (by simp [hjg, e2, he, e])
     exact absurd this hji
   ·simp [e]
  ·simp only
   rw [gr.lots g (List.mem_of_getElem? hj), he]
   simp
 none_ s hs := by
  have hs' : s ∉ G.map (·.1) := fun hm => hs (by
   obtain ⟨q, hq, rfl⟩ := List.mem_map.1 hm
   obtain ⟨i, hi, rfl⟩ := List.getElem_of_mem hq
   rw [List.mem_map]
   by_cases hij : i = j
   ·subst hij
    rw [List.getElem?_eq_getElem hi] at hj; cases hj
    exact ⟨(G[i].1, x, G[i].2.2 ++ [S[k]]), List.mem_iff_getElem?.2 ⟨i, List.getElem?_set_self hi⟩, rfl⟩
   ·refine ⟨G[i], ?_, rfl⟩
    rw [List.mem_iff_getElem?]
    exact ⟨i, by rw [List.getElem?_set_ne (Ne.symm hij), List.getElem?_eq_getElem hi]⟩)
  rw [take_one hk, List.filter_append, gr.none_ s hs']
  have : ¬ S[k].Item = s := fun e => hs' (by rw [← e, ← he]; exact List.mem_map_of_mem (List.mem_of_getElem? hj))
  simp [this]
theorem Groups.fresh {S : List Lot} {k : Nat} {psI : Ents (List UInt8) AVal} {G : List Gp} (gr : Groups S k psI G) (hk : k < S.length) (he : S[k].Item ∉ G.map (·.1)) (x : AVal) (c : Nat) :
  Groups S (k + 1) (putP psI S[k].Item x c) (G ++ [(S[k].Item, x, [S[k]])]) where
 get s := by
  rw [getP_put, List.find?_append]
  by_cases e : s = S[k].Item
  ·subst e
   have : (G.find? fun g => decide (g.1 = S[k].Item)) = none := by
    rw [List.find?_eq_none]; intro g hg; simp; intro e; exact he (by rw [← e]; exact List.mem_map_of_mem hg)
   rw [if_pos rfl, this]; simp
  ·rw [if_neg e, gr.get s]
   simp [Ne.symm e]
 nd := by
  rw [List.map_append, List.nodup_append]
  exact ⟨gr.nd, List.pairwise_singleton _ _, fun a ha b hb e => he (by simp at hb; rw [← hb, ← e]; exact ha)⟩
 lots q hq := by
  rw [take_one hk, List.filter_append]
  rcases List.mem_append.1 hq with hq | hq
  ·have : ¬ S[k].Item = q.1 := fun e => he (by rw [e]; exact List.mem_map_of_mem hq)
   rw [← gr.lots q hq]; simp [this]
  ·rw [List.mem_singleton.1 hq]
   simp only
   rw [gr.none_ _ he]; simp
 none_ s hs := by
  rw [take_one hk, List.filter_append]
  have h1 : s ∉ G.map (·.1) := fun hm => hs (by rw [List.map_append]; exact List.mem_append_left _ hm)
  have h2 : ¬ S[k].Item = s := fun e => hs (by rw [List.map_append]; simp [e])
  rw [gr.none_ s h1]; simp [h2]
theorem sortLots_nodup {L : List Lot} (h : (L.map Lot.Id).Nodup) : ((sortLots L).map Lot.Id).Nodup := ((sortLots_perm L).map Lot.Id).nodup_iff.2 h
def Tells (L : List Lot) (ps : Ents Int Int) (left : Lf) : Prop := ∀ l ∈ L, getP ps l.Id = some (left l.Id)
theorem Tells.put {L : List Lot} {ps : Ents Int Int} {left : Lf} (h : Tells L ps left) (n v : Int) (c : Nat) : Tells L (putP ps n v c) (fun i => if i = n then v else left i) := fun l hl => by
 rw [getP_put]
 by_cases e : l.Id = n
 ·rw [if_pos e]; simp [e]
 ·rw [if_neg e, h l hl]; simp [e]
structure Small (st : FS5) : Prop where
 left : ∀ n, st.left n ≤ 1073741824
 need : st.need ≤ 1125899906842624
theorem stepU_small {s : FS5} (h : FSOk s) (k : Small s) (i : Int) (w : Want) (l : Lot) : Small (stepU i w s l) := by
 have := takeOf_nn h l
 unfold stepU
 split
 ·exact k
 ·have := k.left l.Id; have := k.need
  refine ⟨fun n => ?_, by simp only; omega⟩
  simp only; split
  ·omega
  ·exact k.left n
section
variable {h0 h : AHeap} {id : Nat} {L : List Lot} {W : List Want} {Q : AVal → AHeap → Prop} {Y1 : List AVal → AHeap → Prop} {v1 v8 v49 v50 v51 z : AVal} {Rz : List (List AVal)}
theorem fill_in (s1 : window_Has.Spec C N) {S : List Lot} (hz : SlX h0 6 z (S.map Lot.cs) Rz) (hS : ∀ l ∈ S, l ∈ L) (hSl : S.length ≤ 300) {w : Want} {at_ : Nat} {left : Lf} {out : List Use} (hok : FSOk ⟨left, w.Qty, out⟩) (hsm : Small ⟨left, w.Qty, out⟩) {x : AVal} {ps : Ents Int Int} {c : Nat}
  (ho : Owns h0 h [.blk id (mapBlk (encM kI vI ps) c), .sl 3 x (out.map Use.cs) []]) (ht : Tells L ps left) (hout : out.length ≤ 50000000)
  (hk : ∀ h' x' ps' c', Owns h0 h' [.blk id (mapBlk (encM kI vI ps') c'), .sl 3 x' ((S.foldl (stepU at_ w) ⟨left, w.Qty, out⟩).out.map Use.cs) []] → Tells L ps' (S.foldl (stepU at_ w) ⟨left, w.Qty, out⟩).left → (S.foldl (stepU at_ w) ⟨left, w.Qty, out⟩).out.length ≤ out.length + S.length →
   flow_fill.k1 C N Q Y1 v1 (.mp id) v8 x' (.int .i64 (S.foldl (stepU at_ w) ⟨left, w.Qty, out⟩).need) v49 v50 v51 h') :
  LoopR (flow_fill.l3 C N Q Y1 v1 (.mp id) v8 (.int .i64 (at_ : Int)) v49 v50 v51 z (.int .i64 (S.length : Int)) (.agg w.cs)) [x, .int .i64 w.Qty, .int .i64 0] h := by
 refine LoopR.intro (fun t vs hh => ∃ (j : Nat) (x : AVal) (ps : Ents Int Int) (c : Nat) (st : FS5), j + t = S.length ∧ st = (S.take j).foldl (stepU at_ w) ⟨left, w.Qty, out⟩ ∧ vs = [x, .int .i64 st.need, .int .i64 (j : Int)] ∧
  Owns h0 hh [.blk id (mapBlk (encM kI vI ps) c), .sl 3 x (st.out.map Use.cs) []] ∧ Tells L ps st.left ∧ FSOk st ∧ Small st ∧ st.out.length ≤ out.length + j) S.length ?_ ⟨0, x, ps, c, _, by omega, rfl, rfl, ho, ht, hok, hsm, by simp⟩
 rintro Y t vs hh ⟨j, x, ps, c, st, htj, hst, rfl, o, hT, hok, hsm, hol⟩ hY
 simp -dsimp only [flow_fill.l3, flow_fill.k2, lssN, B.pv_some]
 refine B.cond_bool (fun hb => ?_) (fun hb => ?_) <;> simp only [decide_eq_true_eq, decide_eq_false_iff_not] at hb
 ·have hzz := hz.mono o.le
  have hg : (S.map Lot.cs)[j]? = some (S[j]).cs := by rw [List.getElem?_map, List.getElem?_eq_getElem hb]; rfl
  have hidx : V.idxS 6 z (.int .i64 (j : Int)) = some (elp 6 z j 0) := hzz.idxN (by simpa using hb)
  have hlk : A.lkp hh (some .i) (some (.int .i64 0)) false (.mp id) (.int .i64 S[j].Id) = some (.int .i64 (st.left S[j].Id)) := by
   have := o.lkp 0 rfl keyI (0 : Int) S[j].Id
   rw [hT _ (hS _ (List.getElem_mem hb))] at this
   exact this
  have tk := takeOf_nn hok S[j]
  have sm1 := hsm.left S[j].Id; have sm2 := hsm.need
  have lk0 := hok.left S[j].Id
  have hnext : (S.take (j + 1)).foldl (stepU at_ w) ⟨left, w.Qty, out⟩ = stepU at_ w st S[j] := by rw [take_one hb, List.foldl_append, ← hst]; rfl
  have fin : ∀ (x' : AVal) (ps' : Ents Int Int) (c' : Nat) (h' : AHeap), Owns h0 h' [.blk id (mapBlk (encM kI vI ps') c'), .sl 3 x' ((stepU at_ w st S[j]).out.map Use.cs) []] → Tells L ps' (stepU at_ w st S[j]).left → (stepU at_ w st S[j]).out.length ≤ out.length + (j + 1) →
    Y [x', .int .i64 (stepU at_ w st S[j]).need, .int .i64 ((j + 1 : Nat) : Int)] h' := fun x' ps' c' h' o' hT' hl' =>
   hY (S.length - (j + 1)) _ _ (by omega) ⟨j + 1, x', ps', c', _, by omega, hnext.symm, rfl, o', hT', stepU_ok hok _ _ _, stepU_small hok hsm _ _ _, hl'⟩
  have hadd := add1 (show j < 4611686018427387904 by omega)
  simp -dsimp only [hidx, B.ldn_eq, hzz.elem hg, setLot6, lotId, B.al_agg, hlk, V.min2_int, V.bin_eql, B.pv_some]
  have hte : min st.need (st.left S[j].Id) = takeOf st S[j] := rfl
  rw [hte]
  by_cases h0 : takeOf st S[j] = 0
  ·have hs : stepU at_ w st S[j] = st := by unfold stepU; rw [if_pos (.inl h0)]
   rw [hs] at fin
   simp -dsimp only [h0, decide_true, B.gd_f, Bool.not_true, B.gdb_false, B.pick_t, B.cond_true, hadd, B.pv_some, B.al_agg]
   exact fin x ps c hh o hT (by omega)
  ·simp -dsimp only [h0, decide_false, B.gd_f, Bool.not_false, B.gdb_true, lotDays, wantDay, B.pv_some, B.al_agg]
   refine s1 _ _ _ _ _ ?_
   simp -dsimp only [h0, decide_false, V.un_not, B.pv_some, B.gd_f, Bool.not_false, B.gdb_true, B.pick_f]
   refine B.cond_bool (fun hc => ?_) (fun hc => ?_)
   ·have hs : stepU at_ w st S[j] = st := by unfold stepU; rw [if_pos (.inr (by simpa using hc))]
    rw [hs] at fin
    simp -dsimp only [hadd, B.pv_some]
    exact fin x ps c hh o hT (by omega)
   ·have hs : stepU at_ w st S[j] = ⟨fun n => if n = S[j].Id then st.left S[j].Id - takeOf st S[j] else st.left n, st.need - takeOf st S[j], st.out ++ [⟨at_, S[j].Id, takeOf st S[j]⟩]⟩ := by
     unfold stepU; rw [if_neg]
     intro hcc; rcases hcc with hcc | hcc
     ·exact h0 hcc
     ·rw [hcc] at hc; cases hc
    rw [hs] at fin
    simp -dsimp only [lotId, hlk, V.bin_sub, B.pv_some, B.al_agg]
    rw [wrap_i64 (n := st.left S[j].Id - takeOf st S[j]) (by omega) (by omega)]
    refine o.mset 0 rfl keyI S[j].Id (st.left S[j].Id - takeOf st S[j]) fun h2 o2 _ _ => ?_
    simp -dsimp only [lotId, bldUse, fillUse1, V.bin_sub, B.pv_some, B.al_agg]
    rw [wrap_i64 (n := st.need - takeOf st S[j]) (by omega) (by omega)]
    simp only [List.set_cons_zero] at o2
    refine o2.push 1 rfl (cs := Use.cs ⟨at_, S[j].Id, takeOf st S[j]⟩) rfl (by omega) (by simp; omega) (by simp [maxLen]; omega) fun x' h3 o3 _ => ?_
    simp -dsimp only [hadd, B.pv_some]
    refine fin x' _ _ h3 (by simpa using o3) (hT.put _ _ _) (by simp; omega)
 ·rw [List.take_of_length_le (by omega)] at hst
  subst hst
  exact hk hh x ps c o hT (by omega)
end
end Go.Ab
namespace Go.Ab
variable {C : CSem} {N : Nat → Nat}
theorem getPush {α : Type} {l : List α} (a : α) {n : Nat} (h : n = l.length) : (l ++ [a])[n]? = some a := by subst h; simp
theorem setPush {α : Type} {l : List α} (a b : α) {n : Nat} (h : n = l.length) : (l ++ [a]).set n b = l ++ [b] := by subst h; rw [List.set_append_right _ _ (Nat.le_refl _)]; simp
structure Bnd (left : Lf) : Prop where
 nn : LfOk left
 le : ∀ n, left n ≤ 1073741824
theorem foldU_small {i : Int} {w : Want} : ∀ (S : List Lot) {s : FS5}, FSOk s → Small s → Small (S.foldl (stepU i w) s)
 | [], _, _, h => h
 | l :: S, _, h, k => foldU_small S (stepU_ok h i w l) (stepU_small h k i w l)
theorem fillAll_cons {L : List Lot} {W : List Want} (p : Fin W.length) (ps : List (Fin W.length)) (left : Lf) (out : List Use) : fillAll L W (p :: ps) left out = if 0 < (fillOne L (p.val : Int) W[p] left out).need then none else fillAll L W ps (fillOne L (p.val : Int) W[p] left out).left (fillOne L (p.val : Int) W[p] left out).out := rfl
theorem rowOf_le (L : List Lot) (w : Want) : (rowOf L w).length ≤ L.length := by
 unfold rowOf
 exact Nat.le_trans (List.length_filter_le _ _) (by rw [sortLots_len]; exact Nat.le_refl _)
section
variable {h0 h : AHeap} {id idI : Nat} {L : List Lot} {W : List Want} {Q : AVal → AHeap → Prop} {y z : AVal} {Rw : List (List AVal)}
theorem fill_days (s1 : window_Has.Spec C N) (hy : SlX h0 3 y (W.map Want.cs) Rw) (hz : SlX h0 1 z ((dayOrder W).map fc) []) (hL : L.length ≤ 300) (hW : W.length ≤ 20000) (hw : ∀ w ∈ W, wantRight w = true)
  (hit : ∀ s : List UInt8, ∃ x Rx, (∀ h', h0.le h' → A.lkp h' (some .s) (some .nils) false (.mp idI) (.str s) = some x) ∧ SlX h0 6 x (((sortLots L).filter fun l => decide (l.Item = s)).map Lot.cs) Rx)
  {left : Lf} (hb0 : Bnd left) {ps : Ents Int Int} {c : Nat} (ho : Owns h0 h [.blk id (mapBlk (encM kI vI ps) c)]) (ht : Tells L ps left)
  (hno : ∀ h', h0.le h' → fillAll L W (dayOrder W) left [] = none → Q (.tup [.nils, .nilm, .bool false]) h')
  (hyes : ∀ h' us lf x' ps' c', fillAll L W (dayOrder W) left [] = some (us, lf) → Owns h0 h' [.blk id (mapBlk (encM kI vI ps') c'), .sl 3 x' (us.map Use.cs) []] → Tells L ps' lf → Bnd lf → us.length ≤ 6000000 → Q (.tup [x', .mp id, .bool true]) h') :
  LoopR (flow_fill.l7 C N Q y (.mp id) (.mp idI) z (.int .i64 (W.length : Int))) [.nils, .int .i64 0] h := by
 refine LoopR.intro (fun t vs hh => ∃ (k : Nat) (x : AVal) (ps : Ents Int Int) (c : Nat) (lf : Lf) (out : List Use), k + t = W.length ∧ vs = [x, .int .i64 (k : Int)] ∧ Owns h0 hh [.blk id (mapBlk (encM kI vI ps) c), .sl 3 x (out.map Use.cs) []] ∧ Tells L ps lf ∧ Bnd lf ∧ out.length ≤ 300 * k ∧
  fillAll L W ((dayOrder W).drop k) lf out = fillAll L W (dayOrder W) left []) W.length ?_ ⟨0, .nils, ps, c, left, [], by omega, rfl, by simpa using ho.nils 3, ht, hb0, by simp, by simp⟩
 rintro Y t vs hh ⟨k, x, ps, c, lf, out, hkt, rfl, o, hT, hB, hol, hf⟩ hY
 simp -dsimp only [flow_fill.l7, flow_fill.k6, lssN, B.pv_some]
 refine B.cond_bool (fun hb => ?_) (fun hb => ?_) <;> simp only [decide_eq_true_eq, decide_eq_false_iff_not] at hb
 ·have hk' : k < (dayOrder W).length := by rw [dayOrder_len]; exact hb
  have hzz := hz.mono o.le
  have hyy := hy.mono o.le
  have hidx : V.idxS 1 z (.int .i64 (k : Int)) = some (elp 1 z k 0) := hzz.idxN (by simpa using hk')
  have hg : ((dayOrder W).map fc)[k]? = some (fc (dayOrder W)[k]) := by rw [List.getElem?_map, List.getElem?_eq_getElem hk']; rfl
  have hidy : V.idxS 3 y (.int .i64 ((dayOrder W)[k].val : Int)) = some (elp 3 y (dayOrder W)[k].val 0) := hyy.idxN (by simp)
  have hgy : (W.map Want.cs)[(dayOrder W)[k].val]? = some (W[(dayOrder W)[k]]).cs := by rw [List.getElem?_map, List.getElem?_eq_getElem (dayOrder W)[k].2]; rfl
  have wr := wantRight_facts (hw W[(dayOrder W)[k]] (List.getElem_mem _))
  obtain ⟨gx, Rx, glk, gs⟩ := hit W[(dayOrder W)[k]].Item
  have gl := gs.lenSl
  rw [List.length_map] at gl
  have rl := rowOf_le L W[(dayOrder W)[k]]
  simp -dsimp only [hidx, B.ld_eq, hzz.cell hg, flow_fill.k5, hidy, B.ldn_eq, hyy.elem hgy, setWant, wantQty, flow_fill.k4, wantItem, B.al_agg, glk _ o.le, gl, B.pv_some]
  have hd : (dayOrder W).drop k = (dayOrder W)[k] :: (dayOrder W).drop (k + 1) := List.drop_eq_getElem_cons hk'
  rw [hd, fillAll_cons] at hf
  have hok : FSOk ⟨lf, W[(dayOrder W)[k]].Qty, out⟩ := ⟨hB.nn, by simp only; omega⟩
  have hsm : Small ⟨lf, W[(dayOrder W)[k]].Qty, out⟩ := ⟨hB.le, by simp only; omega⟩
  refine fill_in s1 (S := rowOf L W[(dayOrder W)[k]]) gs (fun l hl => (sortLots_perm L).mem_iff.1 (List.mem_filter.1 hl).1) (by omega) hok hsm o hT (by omega) fun h' x' ps' c' o' hT' hl' => ?_
  have e : (rowOf L W[(dayOrder W)[k]]).foldl (stepU ((dayOrder W)[k].val : Int) W[(dayOrder W)[k]]) ⟨lf, W[(dayOrder W)[k]].Qty, out⟩ = fillOne L ((dayOrder W)[k].val : Int) W[(dayOrder W)[k]] lf out := rfl
  have hok' : FSOk (fillOne L ((dayOrder W)[k].val : Int) W[(dayOrder W)[k]] lf out) := foldU_ok _ hok
  have hsm' : Small (fillOne L ((dayOrder W)[k].val : Int) W[(dayOrder W)[k]] lf out) := foldU_small _ hok hsm
  simp only [e] at o' hT' hl' ⊢
  simp -dsimp only [flow_fill.k1, V.bin_gtr, B.pv_some]
  refine B.cond_bool (fun hc => ?_) (fun hc => ?_)
  ·rw [decide_eq_true_eq] at hc
   rw [if_pos (by omega)] at hf
   exact hno _ o'.le hf.symm
  ·rw [decide_eq_false_iff_not] at hc
   rw [if_neg (by omega)] at hf
   simp -dsimp only [add1 (show k < 4611686018427387904 by omega), B.pv_some]
   exact hY (W.length - (k + 1)) _ _ (by omega) ⟨k + 1, x', ps', c', _, _, by omega, rfl, o', hT', ⟨hok'.left, hsm'.left⟩, by omega, hf⟩
 ·rw [List.drop_eq_nil_of_le (by rw [dayOrder_len]; omega)] at hf
  exact hyes hh out lf x ps c hf.symm o hT hB (by omega)
theorem fill_maps {S : List Lot} {v1 : AVal} {xs : AVal} (hS : S.length ≤ 300) {ci : Nat} (ho : Owns h0 h [.blk id (mapBlk (encM kI vI []) 0), .blk idI (mapBlk (encM kS vA []) ci), .sl 6 xs (S.map Lot.cs) []])
  (hn : (S.map Lot.Id).Nodup)
  (hk : ∀ h' psL cL psI cI G, Owns h0 h' ([.blk id (mapBlk (encM kI vI psL) cL), .blk idI (mapBlk (encM kS vA psI) cI), .sl 6 xs (S.map Lot.cs) []] ++ G.map gOb) → Groups S S.length psI G → (∀ l ∈ S, getP psL l.Id = some l.Qty) →
   B.call C (N 240) [v1] h' fun v49 h => B.pv (V.lenSl v49) fun v50 => LoopR (flow_fill.l7 C N Q v1 (.mp id) (.mp idI) v49 v50) [.nils, (.int .i64 0)] h) :
  LoopR (flow_fill.l9 C N Q v1 (.mp id) (.mp idI) xs (.int .i64 (S.length : Int))) [.int .i64 0] h := by
 refine LoopR.intro (fun t vs hh => ∃ (k : Nat) (psL : Ents Int Int) (cL : Nat) (psI : Ents (List UInt8) AVal) (cI : Nat) (G : List Gp), k + t = S.length ∧ vs = [.int .i64 (k : Int)] ∧
  Owns h0 hh ([.blk id (mapBlk (encM kI vI psL) cL), .blk idI (mapBlk (encM kS vA psI) cI), .sl 6 xs (S.map Lot.cs) []] ++ G.map gOb) ∧ Groups S k psI G ∧ (∀ l ∈ S.take k, getP psL l.Id = some l.Qty)) S.length ?_
  ⟨0, [], 0, [], ci, [], by omega, rfl, by simpa using ho, ⟨fun s => by simp [getP], by simp, by simp, by simp⟩, by simp⟩
 rintro Y t vs hh ⟨k, psL, cL, psI, cI, G, hkt, rfl, o, gr, hq⟩ hY
 simp -dsimp only [flow_fill.l9, flow_fill.k8, lssN, B.pv_some]
 refine B.cond_bool (fun hb => ?_) (fun hb => ?_) <;> simp only [decide_eq_true_eq, decide_eq_false_iff_not] at hb
 ·have hz := o.slAt 2 rfl
  have hg : (S.map Lot.cs)[k]? = some (S[k]).cs := by rw [List.getElem?_map, List.getElem?_eq_getElem hb]; rfl
  have hidx : V.idxS 6 xs (.int .i64 (k : Int)) = some (elp 6 xs k 0) := hz.idxN (by simpa using hb)
  simp -dsimp only [hidx, B.ldn_eq, hz.elem hg, setLot6, lotId, lotQty, B.al_agg, B.pv_some]
  refine o.mset 0 rfl keyI S[k].Id S[k].Qty fun h2 o2 _ _ => ?_
  simp only [List.cons_append, List.nil_append, List.set_cons_zero] at o2
  have hlk : A.lkp h2 (some .s) (some .nils) false (.mp idI) (.str S[k].Item) = some ((getP psI S[k].Item).getD .nils) := o2.lkp 1 rfl keyS (v := vA) AVal.nils S[k].Item
  simp -dsimp only [lotItem, getLot6, B.al_agg, hlk, fillLot1, B.pv_some]
  have hq' : ∀ l ∈ S.take (k + 1), getP (putP psL S[k].Id S[k].Qty cL) l.Id = some l.Qty := fun l hl => by
   rw [getP_put]
   rw [take_one hb] at hl
   rcases List.mem_append.1 hl with hl | hl
   ·rw [if_neg, hq l hl]
    intro e
    obtain ⟨j, hj, rfl⟩ := List.getElem_of_mem hl
    rw [List.length_take] at hj
    rw [List.getElem_take] at e
    have := nodup_inj hn (i := j) (j := k) (by simp; omega) (by simpa using hb) (by simpa using e)
    omega
   ·rw [List.mem_singleton.1 hl, if_pos rfl]
  have hgl : ∀ g ∈ G, g.2.2.length ≤ 300 := fun g hg => by
   rw [gr.lots g hg]
   exact Nat.le_trans (List.length_filter_le _ _) (by rw [List.length_take]; omega)
  have hget := gr.get S[k].Item
  by_cases hin : S[k].Item ∈ G.map (·.1)
  ·obtain ⟨j, hj, e⟩ := List.getElem_of_mem hin
   have hj' : j < G.length := by simpa using hj
   have hgj : G[j]? = some G[j] := List.getElem?_eq_getElem hj'
   have e2 : G[j].1 = S[k].Item := by simpa using e
   rw [← e2, find_at gr.nd hgj, e2] at hget
   have hl300 := hgl _ (List.getElem_mem hj')
   rw [hget]
   simp only [Option.map_some, Option.getD_some]
   have ob : ([Ob.blk id (mapBlk (encM kI vI (putP psL S[k].Id S[k].Qty cL)) (clkP psL S[k].Id cL)), .blk idI (mapBlk (encM kS vA psI) cI), .sl 6 xs (S.map Lot.cs) []] ++ G.map gOb)[3 + j]? = some (.sl 6 G[j].2.1 (G[j].2.2.map Lot.cs) []) := by
    rw [List.getElem?_append_right (by simp)]
    simp [hj', gOb]
   refine o2.push (3 + j) ob (cs := Lot.cs S[k]) rfl (by omega) (by simp; omega) (by simp [maxLen]; omega) fun x' h3 o3 _ => ?_
   have e3 : ([Ob.blk id (mapBlk (encM kI vI (putP psL S[k].Id S[k].Qty cL)) (clkP psL S[k].Id cL)), .blk idI (mapBlk (encM kS vA psI) cI), .sl 6 xs (S.map Lot.cs) []] ++ G.map gOb).set (3 + j) (.sl 6 x' (G[j].2.2.map Lot.cs ++ [Lot.cs S[k]]) []) =
     [Ob.blk id (mapBlk (encM kI vI (putP psL S[k].Id S[k].Qty cL)) (clkP psL S[k].Id cL)), .blk idI (mapBlk (encM kS vA psI) cI), .sl 6 xs (S.map Lot.cs) []] ++ (G.set j (G[j].1, x', G[j].2.2 ++ [S[k]])).map gOb := by
    rw [List.set_append_right _ _ (by simp)]
    simp [gOb]
   have o3' : Owns h0 h3 _ := o3
   rw [show (Ob.blk id (mapBlk (encM kI vI (putP psL S[k].Id S[k].Qty cL)) (clkP psL S[k].Id cL)) :: .blk idI (mapBlk (encM kS vA psI) cI) :: .sl 6 xs (S.map Lot.cs) [] :: G.map gOb).set (3 + j) (Ob.sl 6 x' (G[j].2.2.map Lot.cs ++ [Lot.cs S[k]]) []) = _ from e3] at o3'
   refine o3'.mset 1 rfl keyS S[k].Item x' fun h4 o4 _ _ => ?_
   simp -dsimp only [add1 (show k < 4611686018427387904 by omega), B.pv_some]
   exact hY (S.length - (k + 1)) _ _ (by omega) ⟨k + 1, _, _, _, _, _, by omega, rfl, o4, gr.old hb hgj e2 x' cI, hq'⟩
  ·have hnone : (G.find? fun g => decide (g.1 = S[k].Item)) = none := by
    rw [List.find?_eq_none]; intro g hg; simp; intro e; exact hin (by rw [← e]; exact List.mem_map_of_mem hg)
   rw [hnone] at hget
   rw [hget]
   simp only [Option.map_none, Option.getD_none]
   have o2' := o2.nils 6
   refine o2'.push (3 + G.length) (es := 6) (x := .nils) (L := []) (R := []) ?_ (cs := Lot.cs S[k]) rfl (by omega) (by simp) (by simp [maxLen]) fun x' h3 o3 _ => ?_
   ·exact getPush _ (by simp only [List.length_cons, List.length_map]; omega)
   have e3 : (Ob.blk id (mapBlk (encM kI vI (putP psL S[k].Id S[k].Qty cL)) (clkP psL S[k].Id cL)) :: .blk idI (mapBlk (encM kS vA psI) cI) :: .sl 6 xs (S.map Lot.cs) [] :: G.map gOb ++ [Ob.sl 6 .nils [] []]).set (3 + G.length) (Ob.sl 6 x' ([] ++ [Lot.cs S[k]]) []) =
     [Ob.blk id (mapBlk (encM kI vI (putP psL S[k].Id S[k].Qty cL)) (clkP psL S[k].Id cL)), .blk idI (mapBlk (encM kS vA psI) cI), .sl 6 xs (S.map Lot.cs) []] ++ (G ++ [(S[k].Item, x', [S[k]])]).map gOb := by
    rw [setPush _ _ (by simp only [List.length_cons, List.length_map]; omega)]
    simp [gOb]
   have o3' : Owns h0 h3 _ := o3
   rw [e3] at o3'
   refine o3'.mset 1 rfl keyS S[k].Item x' fun h4 o4 _ _ => ?_
   simp -dsimp only [add1 (show k < 4611686018427387904 by omega), B.pv_some]
   exact hY (S.length - (k + 1)) _ _ (by omega) ⟨k + 1, _, _, _, _, _, by omega, rfl, o4, gr.fresh hb hin x' cI, hq'⟩
 ·rw [List.take_of_length_le (by omega)] at hq
  have hkS : k = S.length := by omega
  subst hkS
  exact hk hh psL cL psI cI G o gr hq
end
end Go.Ab
namespace Go.Ab
variable {C : CSem} {N : Nat → Nat}
def flow_fill.Spec (C : CSem) (N : Nat → Nat) : Prop := ∀ (x y : AVal) (L : List Lot) (W : List Want) (R S : List (List AVal)) (h : AHeap) (Q : AVal → AHeap → Prop), SlX h 6 x (L.map Lot.cs) R → SlX h 3 y (W.map Want.cs) S → L.length < 4611686018427387904 → W.length < 4611686018427387904 →
 (greedy L W = none → Q (.tup [.nils, .nilm, .bool false]) h) →
 (∀ h' us lf x' id ps c, greedy L W = some (us, lf) → mayBe L W = true → Owns h h' [.blk id (mapBlk (encM kI vI ps) c), .sl 3 x' (us.map Use.cs) []] → Tells L ps lf → Bnd lf → us.length ≤ 6000000 → Q (.tup [x', .mp id, .bool true]) h') → C (N 232) [x, y] h Q
theorem left0_bnd {L : List Lot} (h : ∀ l ∈ L, lotRight l = true) : Bnd (left0 L) := ⟨left0_ok h, fun i => by
 unfold left0
 cases hf : L.find? (fun a => decide (a.Id = i)) with
 | none => simp
 | some a => have := lotRight_facts (h a (List.mem_of_find?_eq_some hf)); simp only; omega⟩
theorem flow_fill.spec (i : flow_fill.Imp C N) (s1 : flow_together.Spec C N) (s2 : lot_Sort.Spec C N) (s3 : flow_days.Spec C N) (s4 : window_Has.Spec C N) : flow_fill.Spec C N := by
 intro x y L W R S h Q hx hy hlen hlen2 hno hyes
 apply i
 simp -dsimp only [flow_fill.cps, flow_fill.k11]
 refine s1 _ _ _ _ _ _ _ _ hx hy hlen hlen2 ?_
 simp -dsimp only [V.un_not, B.pv_some]
 cases hm : mayBe L W with
 | false =>
  simp -dsimp only [Bool.not_false, B.cond_true]
  exact dn_same (hno (by unfold greedy; rw [hm]; rfl))
 | true =>
  simp -dsimp only [Bool.not_true, B.cond_false]
  have hgr : greedy L W = fillAll L W (dayOrder W) (left0 L) [] := by unfold greedy; rw [hm]; rfl
  obtain ⟨f1, f2, f3, f4, f5⟩ := mayBe_facts hm
  refine (Owns.start h).newMap (K := Int) (T := Int) kI vI fun id h1 _ o1 _ => ?_
  simp -dsimp only [flow_fill.k10]
  refine o1.newMap (K := List UInt8) (T := AVal) kS vA fun idI h2 _ o2 _ => ?_
  simp only [List.nil_append, List.cons_append] at o2
  refine s2 _ _ _ _ _ (hx.mono o2.le) (by omega) fun xs h3 os => ?_
  have o3 := o2.join os
  have e1 := os.slAt 0 rfl
  have e2 := e1.lenSl
  rw [List.length_map] at e2
  simp -dsimp only [e2, B.pv_some]
  refine fill_maps (by rw [sortLots_len]; exact f1) o3 (sortLots_nodup f4) fun h4 psL cL psI cI G o4 gr hq => ?_
  refine s3 _ _ _ _ _ (hy.mono o4.le) f2 f5 fun z h5 oz => ?_
  have o5 := o4.join oz
  have ez := (oz.slAt 0 rfl).lenSl
  rw [List.length_map, dayOrder_len] at ez
  simp -dsimp only [ez, B.pv_some]
  have o6 := o5.perm (l' := ((.blk idI (mapBlk (encM kS vA psI) cI)) :: .sl 6 xs ((sortLots L).map Lot.cs) [] :: (G.map gOb ++ [.sl 1 z ((dayOrder W).map fc) []])) ++ [.blk id (mapBlk (encM kI vI psL) cL)]) (by
   simp only [List.cons_append, List.nil_append, List.append_assoc]
   refine List.Perm.trans ?_ (List.perm_append_comm (l₁ := [Ob.blk id (mapBlk (encM kI vI psL) cL)]) (l₂ := (.blk idI (mapBlk (encM kS vA psI) cI)) :: .sl 6 xs ((sortLots L).map Lot.cs) [] :: (G.map gOb ++ [.sl 1 z ((dayOrder W).map fc) []])) |>.trans ?_)
   ·exact List.Perm.refl _
   ·simp)
  obtain ⟨oa, ob⟩ := o6.out
  have zz : SlX _ 1 z ((dayOrder W).map fc) [] := oa.is (.sl 1 z ((dayOrder W).map fc) []) (by simp)
  have ii : _ = some (mapBlk (encM kS vA psI) cI) := oa.is (.blk idI (mapBlk (encM kS vA psI) cI)) (by simp)
  have memL : ∀ l, l ∈ sortLots L ↔ l ∈ L := fun l => (sortLots_perm L).mem_iff
  refine fill_days s4 (L := L) (W := W) (hy.mono oa.le) zz f1 f2 f5 (fun s => ?_) (left0_bnd f3) (c := cL) (ps := psL) ob (fun l hl => ?_) (fun h' hle hn => ?_) (fun h' us lf x' ps' c' he o' hT' hB' hl' => ?_)
  ·have hg := gr.get s
   have hlk : ∀ h', AHeap.le _ h' → A.lkp h' (some .s) (some .nils) false (.mp idI) (.str s) = some ((getP psI s).getD .nils) := fun h' hle => lkp_blk keyS (v := vA) (hle _ _ ii) AVal.nils s false
   refine ⟨_, [], hlk, ?_⟩
   rw [hg]
   ·cases hf : G.find? fun g => decide (g.1 = s) with
    | none =>
     have : s ∉ G.map (·.1) := fun hm => by
      rw [List.find?_eq_none] at hf
      obtain ⟨g, hg1, hg2⟩ := List.mem_map.1 hm
      exact hf g hg1 (by simp [hg2])
     have e := gr.none_ s this
     rw [List.take_length] at e
     rw [e]
     exact SlX.nils _ _
    | some g =>
     have h1 := List.find?_some hf
     have h2 := List.mem_of_find?_eq_some hf
     simp only [decide_eq_true_eq] at h1
     have e := gr.lots g h2
     rw [List.take_length, h1] at e
     rw [← e]
     exact oa.is (gOb g) (by simp only [List.mem_cons, List.mem_append, List.mem_map]; exact .inr (.inr (.inl ⟨g, h2, rfl⟩)))
  ·rw [hq l ((memL l).2 hl), left0_of f4 hl]
  ·exact dn_le (AHeap.le_trans oa.le hle) (hno (hgr.trans hn))
  ·exact dn_same (hyes h' us lf x' id ps' c' (hgr.trans he) hm (o'.back oa.le) hT' hB' hl')
def flow_Fits.Spec (C : CSem) (N : Nat → Nat) : Prop := ∀ (x y : AVal) (L : List Lot) (W : List Want) (R S : List (List AVal)) (h : AHeap) (Q : AVal → AHeap → Prop), SlX h 6 x (L.map Lot.cs) R → SlX h 3 y (W.map Want.cs) S → L.length < 4611686018427387904 → W.length < 4611686018427387904 →
 Q (.bool (greedy L W).isSome) h → C (N 215) [x, y] h Q
theorem flow_Fits.spec (i : flow_Fits.Imp C N) (s1 : flow_fill.Spec C N) : flow_Fits.Spec C N := by
 intro x y L W R S h Q hx hy hlen hlen2 hq
 apply i
 simp -dsimp only [flow_Fits.cps]
 refine s1 _ _ _ _ _ _ _ _ hx hy hlen hlen2 (fun hn => ?_) fun h' us lf x' id ps c he _ o _ _ _ => ?_
 ·rw [hn] at hq
  simp -dsimp only [V.ext_tup, List.getElem?_cons_zero, List.getElem?_cons_succ, B.pv_some]
  exact dn_same hq
 ·rw [he] at hq
  simp -dsimp only [V.ext_tup, List.getElem?_cons_zero, List.getElem?_cons_succ, B.pv_some]
  exact dn_le o.le hq
end Go.Ab
namespace Go.Ab
variable {C : CSem} {N : Nat → Nat}
def slices_Clip_api_Want_api_Want.Spec (C : CSem) (N : Nat → Nat) : Prop := ∀ (x : AVal) (L : List Want) (R : List (List AVal)) (h : AHeap) (Q : AVal → AHeap → Prop), SlX h 3 x (L.map Want.cs) R →
 (∀ y, SlX h 3 y (L.map Want.cs) [] → (foot y = foot x ∨ foot y = none) → Exact y → (L = [] → y = .nils ∨ y = .sz) → Q y h) → C (N 338) [x] h Q
theorem slices_Clip_api_Want_api_Want.spec (i : slices_Clip_api_Want_api_Want.Imp C N) : slices_Clip_api_Want_api_Want.Spec C N := by
 intro x L R h Q hx hq
 apply i
 have e1 := hx.lenSl
 rw [List.length_map] at e1
 obtain ⟨y, c1, c2, c3, c4, c5⟩ := hx.cut3x (k := L.length) (j1 := .i64) (j2 := .i64) (j3 := .i64) (by simp)
 rw [List.take_of_length_le (by simp)] at c2
 simp -dsimp only [slices_Clip_api_Want_api_Want.cps, slices_ClipG.cps, opsF, e1, c1, B.pv_some]
 exact dn_same (hq y c2 (c3.imp id fun h => h.1) c4 fun hl => c5 (by rw [hl]; rfl))
def wantsOn (W : List Want) (M : List Part) (d : Int) : List Want := W ++ M.map fun p => ⟨p.Item, d, p.Qty⟩
theorem wantsOn_take {W : List Want} {M : List Part} {d : Int} {k : Nat} (hk : k < M.length) : wantsOn W (M.take (k + 1)) d = wantsOn W (M.take k) d ++ [⟨M[k].Item, d, M[k].Qty⟩] := by
 unfold wantsOn
 rw [List.take_add_one, List.getElem?_eq_getElem hk, List.map_append, List.append_assoc]; rfl
def least_had.Spec (C : CSem) (N : Nat → Nat) : Prop := ∀ (x y z : AVal) (L : List Lot) (W : List Want) (M : List Part) (R S T : List (List AVal)) (d : Int) (h : AHeap) (Q : AVal → AHeap → Prop), SlX h 6 x (L.map Lot.cs) R → SlX h 3 y (W.map Want.cs) S → SlX h 2 z (M.map Part.cs) T →
 (∀ id b, foot y = some id → h id = some b → b.own = false) → L.length < 4611686018427387904 → W.length + M.length ≤ 100000000 → Q (.bool (greedy L (wantsOn W M d)).isSome) h → C (N 333) [x, y, z, .int .i64 d] h Q
theorem least_had.spec (i : least_had.Imp C N) (s1 : slices_Clip_api_Want_api_Want.Spec C N) (s2 : flow_Fits.Spec C N) : least_had.Spec C N := by
 intro x y z L W M R S T d h Q hx hy hz hno hl1 hl2 hq
 apply i
 have ez := hz.lenSl
 rw [List.length_map] at ez
 simp -dsimp only [least_had.cps]
 refine s1 _ _ _ _ _ hy fun a ha hfa hea hna => ?_
 simp -dsimp only [ez, B.pv_some]
 refine LoopR.intro (fun t vs hh => ∃ (k : Nat) (u : AVal), k + t = M.length ∧ vs = [u, .int .i64 (k : Int)] ∧ ((k = 0 ∧ hh = h ∧ u = a) ∨ (0 < k ∧ Owns h hh [.sl 3 u ((wantsOn W (M.take k) d).map Want.cs) []]))) M.length ?_ ⟨0, a, by omega, rfl, .inl ⟨rfl, rfl, rfl⟩⟩
 rintro Y t vs hh ⟨k, u, hkt, rfl, hu⟩ hY
 have hle : h.le hh := by
  rcases hu with ⟨_, rfl, _⟩ | ⟨_, o⟩
  ·exact AHeap.le_refl _
  ·exact o.le
 have hzz := hz.mono hle
 simp -dsimp only [least_had.l2, least_had.k1, lssN, B.pv_some]
 refine B.cond_bool (fun hb => ?_) (fun hb => ?_)
 ·rw [decide_eq_true_eq] at hb
  have hg : (M.map Part.cs)[k]? = some (M[k]).cs := by rw [List.getElem?_map, List.getElem?_eq_getElem hb]; rfl
  have hidx : V.idxS 2 z (.int .i64 (k : Int)) = some (elp 2 z k 0) := hzz.idxN (by simpa using hb)
  have hel := hzz.elem hg
  simp -dsimp [hidx, hel]
  have step : ∀ u' h', Owns h h' [.sl 3 u' ((wantsOn W (M.take (k + 1)) d).map Want.cs) []] → Y [u', .int .i64 ((k + 1 : Nat) : Int)] h' := fun u' h' o' => hY (t - 1) _ _ (by omega) ⟨k + 1, u', by omega, rfl, .inr ⟨by omega, o'⟩⟩
  have e1 := wantsOn_take (W := W) (d := d) hb
  have e2 : (wantsOn W (M.take (k + 1)) d).map Want.cs = (wantsOn W (M.take k) d).map Want.cs ++ [[.str (M[k]).Item, .int .i64 d, .int .i64 (M[k]).Qty]] := by rw [e1, List.map_append]; rfl
  have hwl : (wantsOn W (M.take k) d).length ≤ W.length + k := by unfold wantsOn; simp; omega
  have fin : ∀ u' h', Owns h h' [.sl 3 u' ((wantsOn W (M.take (k + 1)) d).map Want.cs) []] → B.pv (V.bin .add (.int .i64 (k : Int)) (.int .i64 1)) fun v29 => Y [u', v29] h' := fun u' h' o' => by
   simp -dsimp only [add1 (show k < 4611686018427387904 by omega), B.pv_some]
   exact step u' h' o'
  rcases hu with ⟨rfl, rfl, rfl⟩ | ⟨hk0, o⟩
  ·intro id hid
   have hw0 : wantsOn W (M.take 0) d = W := by simp [wantsOn]
   rw [hw0] at e2
   have hgr := le_upd (blkOf [AVal.str (M[0]).Item, .int .i64 d, .int .i64 (M[0]).Qty]) hid
   refine SlX.appE (M := [[AVal.str (M[0]).Item, .int .i64 d, .int .i64 (M[0]).Qty]]) (R' := []) (ha.mono hgr) hea (fun hl => hna (List.map_eq_nil_iff.1 hl)) (fun i b hf hb' => ?_) (SlX.lit (upd_same ..) (by simp) rfl (by simp) (by simp)) (by omega) (by simp) (by simp; omega) (by simp [maxLen]; omega) fun u' h' o' => fin u' h' ?_
   ·rcases hfa with e | e
    ·rw [e] at hf
     obtain ⟨c, hc⟩ := hy.known hf
     have : upd hh id (blkOf [AVal.str (M[0]).Item, .int .i64 d, .int .i64 (M[0]).Qty]) i = some c := hgr i c hc
     rw [this] at hb'; cases hb'
     exact hno i b hf hc
    ·rw [e] at hf; cases hf
   ·rw [e2]; exact o'.back hgr
  ·refine o.push 0 rfl (cs := [AVal.str (M[k]).Item, .int .i64 d, .int .i64 (M[k]).Qty]) rfl (by omega) (by rw [List.length_map]; omega) (by rw [List.length_map]; simp only [maxLen]; omega) fun u' h' o' _ => fin u' h' ?_
   rw [e2]; exact o'
 ·rw [decide_eq_false_iff_not] at hb
  have hk : k = M.length := by omega
  subst hk
  rw [List.take_length] at hu
  rcases hu with ⟨k0, rfl, rfl⟩ | ⟨_, o⟩
  ·have : M = [] := List.eq_nil_of_length_eq_zero k0
   subst this
   refine s2 _ _ _ _ _ _ _ _ hx ha hl1 (by omega) (dn_same ?_)
   simpa [wantsOn] using hq
  ·have hxx := hx.mono hle
   refine s2 _ _ _ _ _ _ _ _ hxx (o.slAt 0 rfl) hl1 (by unfold wantsOn; simp; omega) (dn_le hle hq)
end Go.Ab
set_option maxRecDepth 100000
namespace Go.Ab
variable {C : CSem} {N : Nat → Nat}
structure TellLent (h : AHeap) (t : TellP) (x y : AVal) : Prop where
 lots : SlX h 6 x (t.Lots.map Lot.cs) marksLot
 uses : SlX h 3 y (t.Uses.map Use.cs) marksUse
theorem TellLent.at_ {h : AHeap} {t : TellP} {x y : AVal} (a : TellLent h t x y) : TellAt h t x y := ⟨⟨_, a.lots⟩, ⟨_, a.uses⟩⟩
end Go.Ab
set_option maxRecDepth 100000
namespace Go.Ab
variable {C : CSem} {N : Nat → Nat}
@[simp] theorem Objs_zero {es : Nat} {xs : Nat → AVal} {D R : Nat → List (List AVal)} : Objs es 0 xs D R = [] := rfl
end Go.Ab
namespace Go.Ab
variable {C : CSem} {N : Nat → Nat}
theorem Owns.lit2L {h0 h : AHeap} {l : List Ob} (ho : Owns h0 h l) {x y : AVal} {id : Nat} (hid : h id = none) : Owns h0 (upd h id (blkOf [x, y])) (l ++ [.sl 1 (.sl id 0 0 2 1 2) [[x], [y]] []]) :=
 ho.newSl hid (by simp) rfl (by simp) rfl
end Go.Ab
namespace Go.Ab
variable {C : CSem} {N : Nat → Nat}
def endsOf (w : Window) (l : Lot) : List Int := match meet ⟨l.From, l.Until⟩ w with
 | (m, true) => [m.From, m.Until]
 | (_, false) => []
def endsRow (a b : Int) (L : List Lot) : List Int := [a, b + 1] ++ L.flatMap (endsOf ⟨a, b + 1⟩)
theorem endsRow_take {a b : Int} {L : List Lot} {k : Nat} (hk : k < L.length) : endsRow a b (L.take (k + 1)) = endsRow a b (L.take k) ++ endsOf ⟨a, b + 1⟩ L[k] := by
 unfold endsRow
 rw [List.take_add_one, List.getElem?_eq_getElem hk, List.flatMap_append, List.append_assoc]
 simp
theorem endsRow_len (a b : Int) : ∀ L : List Lot, (endsRow a b L).length ≤ 2 + 2 * L.length := by
 intro L
 unfold endsRow
 simp only [List.length_append, List.length_cons, List.length_nil]
 have : ∀ L : List Lot, (L.flatMap (endsOf ⟨a, b + 1⟩)).length ≤ 2 * L.length := by
  intro L
  induction L with
  | nil => simp
  | cons l r ih =>
   simp only [List.flatMap_cons, List.length_append, List.length_cons]
   have : (endsOf ⟨a, b + 1⟩ l).length ≤ 2 := by unfold endsOf; split <;> simp
   omega
 have := this L
 omega
def least_ends.Spec (C : CSem) (N : Nat → Nat) : Prop := ∀ (x : AVal) (L : List Lot) (R : List (List AVal)) (a b : Int) (h : AHeap) (Q : AVal → AHeap → Prop), SlX h 6 x (L.map Lot.cs) R → L.length ≤ 1000000 → -4611686018427387904 ≤ b → b < 4611686018427387904 →
 (∀ p z (S : List Int) R' h', S.Perm (endsRow a b L) → S.Pairwise (fun s t => s ≤ t) → Owns h h' [.box p [z], .sl 1 z ((compactI S).map icl) R'] → Q (.fn (N 337) [] [p]) h') → C (N 334) [.int .i64 a, .int .i64 b, x] h Q
theorem least_ends.spec (i : least_ends.Imp C N) (s1 : window_Meet.Spec C N) (s2 : slices_Sort_int_int.Spec C N) (s3 : slices_Compact_int_int.Spec C N) : least_ends.Spec C N := by
 intro x L R a b h Q hx hlen hb1 hb2 hq
 apply i
 have ex := hx.lenSl
 rw [List.length_map] at ex
 have eb : V.bin .add (.int .i64 b) (.int .i64 1) = some (.int .i64 (b + 1)) := by rw [V.bin_add, wrap_i64 (by omega) (by omega)]
 simp -dsimp only [least_ends.cps, least_ends.k4, eb, B.pv_some]
 intro i15 h15
 have o1 := (Owns.start h).lit2L (x := .int .i64 a) (y := .int .i64 (b + 1)) h15
 intro i7 h7
 have o2 := o1.newBox h7 [.nils]
 refine o2.boxSt 1 (off := 0) rfl rfl (by simp) fun h3 o3 _ => ?_
 have o3 : Owns h h3 [.sl 1 (.sl i15 0 0 2 1 2) ((endsRow a b (L.take 0)).map icl) [], .box (.ptr i7 0 0) [.sl i15 0 0 2 1 2]] := o3
 simp -dsimp only [ex, B.pv_some]
 refine LoopR.intro (fun t vs hh => ∃ (k : Nat) (z : AVal), k + t = L.length ∧ vs = [.int .i64 (k : Int)] ∧ Owns h hh [.sl 1 z ((endsRow a b (L.take k)).map icl) [], .box (.ptr i7 0 0) [z]]) L.length ?_ ⟨0, _, by omega, rfl, o3⟩
 rintro Y t vs hh ⟨k, z, hkt, rfl, o⟩ hY
 have hxx := hx.mono o.le
 obtain ⟨_, e7, hb7⟩ := o.boxAt 1 rfl
 cases e7
 have ld : A.ldv hh (.ptr i7 0 0) = some z := by rw [ldv_at hb7]; rfl
 have hrl := endsRow_len a b (L.take k)
 rw [List.length_take] at hrl
 simp -dsimp only [least_ends.l3, least_ends.k2, lssN, B.pv_some]
 refine B.cond_bool (fun hb => ?_) (fun hb => ?_)
 ·rw [decide_eq_true_eq] at hb
  have hg : (L.map Lot.cs)[k]? = some (L[k]).cs := by rw [List.getElem?_map, List.getElem?_eq_getElem hb]; rfl
  have hidx : V.idxS 6 x (.int .i64 (k : Int)) = some (elp 6 x k 0) := hxx.idxN (by simpa using hb)
  have hel := hxx.elem hg
  have er := endsRow_take (a := a) (b := b) hb
  simp -dsimp [hidx, hel, eb]
  refine s1 _ _ _ _ _ _ ?_
  have eo : endsOf ⟨a, b + 1⟩ L[k] = match meet ⟨(L[k]).From, (L[k]).Until⟩ ⟨a, b + 1⟩ with
   | (m, true) => [m.From, m.Until]
   | (_, false) => [] := rfl
  have stay : endsOf ⟨a, b + 1⟩ L[k] = [] → Y [.int .i64 ((k + 1 : Nat) : Int)] hh := fun he => hY (t - 1) _ _ (by omega) ⟨k + 1, z, by omega, rfl, by rw [er, he, List.append_nil]; exact o⟩
  have more : ∀ m : Window, endsOf ⟨a, b + 1⟩ L[k] = [m.From, m.Until] → ∀ z' h', Owns h h' [.sl 1 z' ((endsRow a b (L.take k)).map icl ++ [[.int .i64 m.From], [.int .i64 m.Until]]) [], .box (.ptr i7 0 0) [z']] → Y [.int .i64 ((k + 1 : Nat) : Int)] h' := fun m he z' h' o' => hY (t - 1) _ _ (by omega) ⟨k + 1, z', by omega, rfl, by rw [er, he, List.map_append]; exact o'⟩
  rw [eo] at stay more
  generalize meet ⟨(L[k]).From, (L[k]).Until⟩ ⟨a, b + 1⟩ = mm at stay more ⊢
  obtain ⟨m, ok⟩ := mm
  cases ok with
  | false =>
   simp -dsimp [add1 (show k < 4611686018427387904 by omega)]
   exact stay rfl
  | true =>
   simp -dsimp [ld]
   intro i38 h38
   have o5 := o.grow (le_upd (blkOf [AVal.int .i64 m.From, .int .i64 m.Until]) h38)
   refine o5.appW 0 rfl (M := [[.int .i64 m.From], [.int .i64 m.Until]]) (R' := []) (SlX.lit (upd_same ..) (by simp) rfl (by simp) (by simp)) (by omega) (by simp; omega) (by simp [maxLen]; omega) fun z' h6 o6 _ => ?_
   refine o6.boxSt 1 (off := 0) rfl (o6.slAt 0 rfl).isCell (by simp) fun h8 o8 _ => ?_
   simp -dsimp only [add1 (show k < 4611686018427387904 by omega), B.pv_some]
   exact more m rfl z' h8 o8
 ·rw [decide_eq_false_iff_not] at hb
  have hk : k = L.length := by omega
  subst hk
  rw [List.take_length] at o hrl
  simp -dsimp only [least_ends.k1, B.ld_eq, ld, B.pv_some]
  have op : Owns h hh ([.box (.ptr i7 0 0) [z]] ++ [.sl 1 z ((endsRow a b L).map icl) []]) := o.perm (List.Perm.swap _ _ _)
  obtain ⟨ob, os⟩ := op.out
  have box : ∀ {h' : AHeap} {l : List Ob}, Owns (hh.without [.sl 1 z ((endsRow a b L).map icl) []]) h' l → A.ldv h' (.ptr i7 0 0) = some z := fun o' => by
   obtain ⟨_, e, hb⟩ := ob.boxAt 0 rfl
   cases e
   rw [ldv_at (o'.le _ _ hb)]; rfl
  refine s2 _ _ _ _ _ _ os (by omega) fun h4 S hp hs o4 => ?_
  simp -dsimp only [B.ld_eq, box o4, B.pv_some]
  refine s3 _ _ _ _ _ _ o4 (by rw [hp.length_eq]; omega) fun y h5 R' o5 => ?_
  have oj := ob.join o5
  refine oj.boxSt 0 (off := 0) rfl (o5.slAt 0 rfl).isCell (by simp) fun h6 o6 _ => ?_
  exact dn_same (hq _ y S R' h6 hp hs o6)
end Go.Ab
namespace Go.Ab
variable {C : CSem} {N : Nat → Nat}
def pairsI (S : List Int) : List (List AVal) := (S.zip S.tail).map fun p => [.int .i64 p.1, .int .i64 p.2]
theorem pairsI_get {S : List Int} {k : Nat} (hk : k + 1 < S.length) : (pairsI S)[k]? = some [.int .i64 S[k], .int .i64 S[k + 1]] := by
 unfold pairsI
 rw [List.getElem?_map, List.getElem?_eq_getElem (by simp; omega)]
 simp
theorem pairsI_len (S : List Int) : (pairsI S).length = S.length - 1 := by
 unfold pairsI
 simp
theorem least_ends_1.iter (hC : CMono C) (i : least_ends_1.Imp C N) {p z : AVal} {S : List Int} {R : List (List AVal)} (hl : S.length ≤ 100000000) : Iter C (N 337) [] [p] (fun h => A.ldv h p = some z ∧ SlX h 1 z (S.map icl) R) (pairsI S) := by
 intro id I Z h Q hD hr h0 hend hZ
 refine i (.yld id) p h Q ?_
 obtain ⟨d1, d2⟩ := hD 0 h h0
 have el := d2.lenSl
 rw [List.length_map] at el
 have es : V.bin .sub (.int .i64 (S.length : Int)) (.int .i64 1) = some (.int .i64 ((S.length : Int) - 1)) := by rw [V.bin_sub, wrap_i64 (by omega) (by omega)]
 simp -dsimp only [least_ends_1.cps, least_ends_1.k3, B.ld_eq, d1, el, es, B.pv_some]
 refine LoopR.intro (fun t vs hh => ∃ k : Nat, k + t = (pairsI S).length ∧ vs = [.int .i64 (k : Int)] ∧ I k hh) (pairsI S).length ?_ ⟨0, by omega, rfl, h0⟩
 rintro Y t vs hh ⟨k, hkt, rfl, hI⟩ hY
 rw [pairsI_len] at hkt
 obtain ⟨d1, d2⟩ := hD k hh hI
 simp -dsimp only [least_ends_1.l2, least_ends_1.k1, V.bin_lss, B.pv_some]
 refine B.cond_bool (fun hb => ?_) (fun hb => ?_)
 ·have hb : k + 1 < S.length := by simp at hb; omega
  have g1 : (S.map icl)[k]? = some (icl S[k]) := by rw [List.getElem?_map, List.getElem?_eq_getElem (by omega)]; rfl
  have g2 : (S.map icl)[k + 1]? = some (icl S[k + 1]) := by rw [List.getElem?_map, List.getElem?_eq_getElem hb]; rfl
  have i1 : V.idxS 1 z (.int .i64 (k : Int)) = some (elp 1 z k 0) := d2.idxN (by simp; omega)
  have i2 : V.idxS 1 z (.int .i64 ((k + 1 : Nat) : Int)) = some (elp 1 z (k + 1) 0) := d2.idxN (by simpa using hb)
  have c1 := d2.cell g1
  have c2 := d2.cell g2
  simp -dsimp only [B.ld_eq, d1, i1, c1, add1 (show k < 4611686018427387904 by omega), i2, c2, B.pv_some, B.callv_yld]
  refine hC _ _ _ _ _ (fun v h' hv => ?_) (hr k _ hh (pairsI_get hb) hI)
  rcases hv with ⟨e, h1⟩ | ⟨e, h1⟩
  ·simp -dsimp only [e, V.un_not, Bool.not_true, B.cond_false, add1 (show k < 4611686018427387904 by omega), B.pv_some]
   exact hY (t - 1) _ _ (by omega) ⟨k + 1, by rw [pairsI_len]; omega, rfl, h1⟩
  ·simp -dsimp only [e, V.un_not, Bool.not_false, B.cond_true, B.pv_some]
   exact dn_same (hZ h' h1)
 ·have hb : ¬ k + 1 < S.length := by simp at hb; omega
  have : k = (pairsI S).length := by rw [pairsI_len]; omega
  exact dn_same (hend hh (by rw [← this]; exact hI))
end Go.Ab
namespace Go.Ab
variable {C : CSem} {N : Nat → Nat}
theorem sorted_one : ∀ {S T : List Int}, S.Perm T → S.Pairwise (fun s t => s ≤ t) → T.Pairwise (fun s t => s ≤ t) → S = T
 | [], T, hp, _, _ => by rw [List.Perm.nil_eq hp]
 | a :: S, [], hp, _, _ => by have := hp.length_eq; simp at this
 | a :: S, b :: T, hp, h1, h2 => by
  rw [List.pairwise_cons] at h1 h2
  have e : a = b := by
   have m1 : a ∈ b :: T := hp.subset (List.mem_cons_self ..)
   have m2 : b ∈ a :: S := hp.symm.subset (List.mem_cons_self ..)
   rcases List.mem_cons.1 m1 with e | m1
   ·exact e
   ·rcases List.mem_cons.1 m2 with e | m2
    ·exact e.symm
    ·have := h1.1 b m2; have := h2.1 a m1; omega
  subst e
  rw [sorted_one (List.perm_cons a |>.1 hp) h1.2 h2.2]
def insI (a : Int) : List Int → List Int
 | [] => [a]
 | b :: r => if a ≤ b then a :: b :: r else b :: insI a r
def sortI : List Int → List Int
 | [] => []
 | a :: r => insI a (sortI r)
theorem insI_perm (a : Int) : ∀ l, (insI a l).Perm (a :: l)
 | [] => .refl _
 | b :: r => by
  unfold insI
  split
  ·exact .refl _
  ·exact ((insI_perm a r).cons b).trans (.swap ..)
theorem sortI_perm : ∀ l, (sortI l).Perm l
 | [] => .refl _
 | a :: r => (insI_perm a _).trans ((sortI_perm r).cons a)
theorem insI_sorted {a : Int} : ∀ {l : List Int}, l.Pairwise (fun s t => s ≤ t) → (insI a l).Pairwise (fun s t => s ≤ t)
 | [], _ => List.pairwise_singleton _ _
 | b :: r, h => by
  have h' := h
  rw [List.pairwise_cons] at h
  unfold insI
  split
  ·rename_i hab
   refine List.pairwise_cons.2 ⟨fun c hc => ?_, h'⟩
   rcases List.mem_cons.1 hc with rfl | hc
   ·exact hab
   ·have := h.1 c hc; omega
  ·rename_i hab
   refine List.pairwise_cons.2 ⟨fun c hc => ?_, insI_sorted h.2⟩
   rcases List.mem_cons.1 ((insI_perm a r).subset hc) with rfl | hc
   ·omega
   ·exact h.1 c hc
theorem sortI_sorted : ∀ l, (sortI l).Pairwise (fun s t => s ≤ t)
 | [] => .nil
 | a :: r => insI_sorted (sortI_sorted r)
theorem sortI_of {S T : List Int} (hp : S.Perm T) (hs : S.Pairwise (fun s t => s ≤ t)) : S = sortI T := sorted_one (hp.trans (sortI_perm T).symm) hs (sortI_sorted T)
def cuts (a b : Int) (L : List Lot) : List Int := compactI (sortI (endsRow a b L))
def spansX (L : List Lot) (W : List Want) (M : List Part) (a b : Int) : List (List AVal) :=
 if min b 4000 < max a 0 then [] else ((cuts (max a 0) (min b 4000) L).zip (cuts (max a 0) (min b 4000) L).tail).map fun p => [.agg [.int .i64 p.1, .int .i64 p.2], .bool (greedy L (wantsOn W M p.1)).isSome]
def least_spans.Spec (C : CSem) (N : Nat → Nat) : Prop := ∀ (x y z : AVal) (a b : Int) (h : AHeap) (Q : AVal → AHeap → Prop), x.isCell = true → y.isCell = true → z.isCell = true →
 (∀ p8 p9 p5 p6 p7 h', Owns h h' [.box p5 [x], .box p6 [y], .box p7 [z], .box p8 [.int .i64 a], .box p9 [.int .i64 b]] → Q (.fn (N 332) [] [p8, p9, p5, p6, p7]) h') → C (N 330) [x, y, z, .int .i64 a, .int .i64 b] h Q
theorem least_spans.spec (i : least_spans.Imp C N) : least_spans.Spec C N := by
 intro x y z a b h Q hx hy hz hq
 apply i
 have c1 : ∀ {v : AVal}, v.isCell = true → A.cells1 v = some [v] := fun hv => by simp [A.cells1, hv]
 simp -dsimp only [least_spans.cps, least_spans.k1, c1 hx]
 intro i5 h5
 have o5 := (Owns.start h).newBox h5 [x]
 simp -dsimp only [c1 hy]
 intro i6 h6
 have o6 := o5.newBox h6 [y]
 simp -dsimp only [c1 hz]
 intro i7 h7
 have o7 := o6.newBox h7 [z]
 simp -dsimp only [c1 (show (AVal.int .i64 a).isCell = true from rfl)]
 intro i8 h8
 have o8 := o7.newBox h8 [.int .i64 a]
 simp -dsimp only [c1 (show (AVal.int .i64 b).isCell = true from rfl)]
 intro i9 h9
 have o9 := o8.newBox h9 [.int .i64 b]
 exact dn_same (hq _ _ _ _ _ _ o9)
end Go.Ab
namespace Go.Ab
variable {C : CSem} {N : Nat → Nat}
structure SpansD (p8 p9 p5 p6 p7 x y z : AVal) (a b : Int) (L : List Lot) (W : List Want) (M : List Part) (R S T : List (List AVal)) (h : AHeap) : Prop where
 from_ : A.ldv h p8 = some (.int .i64 a)
 to_ : A.ldv h p9 = some (.int .i64 b)
 ldx : A.ldv h p5 = some x
 ldy : A.ldv h p6 = some y
 ldz : A.ldv h p7 = some z
 lots : SlX h 6 x (L.map Lot.cs) R
 wants : SlX h 3 y (W.map Want.cs) S
 parts : SlX h 2 z (M.map Part.cs) T
 none_ : ∀ id b, foot y = some id → h id = some b → b.own = false
theorem SpansD.mono {p8 p9 p5 p6 p7 x y z : AVal} {a b : Int} {L : List Lot} {W : List Want} {M : List Part} {R S T : List (List AVal)} {h h' : AHeap} (d : SpansD p8 p9 p5 p6 p7 x y z a b L W M R S T h) (hle : h.le h') : SpansD p8 p9 p5 p6 p7 x y z a b L W M R S T h' :=
 ⟨ldv_le hle d.from_, ldv_le hle d.to_, ldv_le hle d.ldx, ldv_le hle d.ldy, ldv_le hle d.ldz, d.lots.mono hle, d.wants.mono hle, d.parts.mono hle, fun id b hf hb => by
  obtain ⟨c, hc⟩ := d.wants.known hf
  rw [hle id c hc] at hb
  cases hb
  exact d.none_ id b hf hc⟩
theorem least_spans_1.iter (hG : CGood C) (i : least_spans_1.Imp C N) (s1 : least_ends.Spec C N) (i1 : least_ends_1.Imp C N) (s2 : least_had.Spec C N) {p8 p9 p5 p6 p7 x y z : AVal} {a b : Int} {L : List Lot} {W : List Want} {M : List Part} {R S T : List (List AVal)}
  (hl1 : L.length ≤ 1000000) (hl2 : W.length + M.length ≤ 100000000) : Iter C (N 332) [] [p8, p9, p5, p6, p7] (SpansD p8 p9 p5 p6 p7 x y z a b L W M R S T) (spansX L W M a b) := by
 intro id I Z h Q hD hr h0 hend hZ
 refine i (.yld id) p8 p9 p5 p6 p7 h Q ?_
 have d := hD 0 h h0
 simp -dsimp only [least_spans_1.cps, show A.cells1 (.yld id) = some [.yld id] from rfl]
 intro i6 h6
 have o := (Owns.start h).newBox h6 [.yld id]
 have d1 := d.mono o.le
 have hmx : V.max2 (.int .i64 a) (.int .i64 0) = some (.int .i64 (max a 0)) := by simp [V.max2]; omega
 have hmn : V.min2 (.int .i64 b) (.int .i64 4000) = some (.int .i64 (min b 4000)) := by simp [V.min2]; omega
 simp -dsimp only [least_spans_1.k4, B.ld_eq, d1.from_, d1.to_, hmx, hmn, V.bin_gtr, B.pv_some]
 refine B.cond_bool (fun hb => ?_) (fun hb => ?_)
 ·have hb : min b 4000 < max a 0 := by simpa using hb
  refine dn_le o.le (hend h ?_)
  unfold spansX
  rw [if_pos hb]
  exact h0
 ·have hb : ¬ min b 4000 < max a 0 := by simpa using hb
  simp -dsimp only [least_spans_1.k3, B.ld_eq, d1.ldx, B.pv_some]
  refine s1 _ _ _ _ _ _ _ d1.lots hl1 (by omega) (by omega) fun p7' z' S' R' h2 hp hs o2 => ?_
  rw [sortI_of hp hs] at o2
  have hx : spansX L W M a b = ((cuts (max a 0) (min b 4000) L).zip (cuts (max a 0) (min b 4000) L).tail).map fun p => [.agg [.int .i64 p.1, .int .i64 p.2], .bool (greedy L (wantsOn W M p.1)).isSome] := by unfold spansX; rw [if_neg hb]
  have hUl : (cuts (max a 0) (min b 4000) L).length ≤ 100000000 := by
   unfold cuts
   have q1 := compactI_len (sortI (endsRow (max a 0) (min b 4000) L))
   have q2 := (sortI_perm (endsRow (max a 0) (min b 4000) L)).length_eq
   have q3 := endsRow_len (max a 0) (min b 4000) L
   omega
  have o2 : Owns (upd h i6 (blkOf [.yld id])) h2 [.box p7' [z'], .sl 1 z' ((cuts (max a 0) (min b 4000) L).map icl) R'] := o2
  have oo := o.join o2
  rw [hx] at hr hend
  generalize cuts (max a 0) (min b 4000) L = U at *
  refine range_iter (least_ends_1.iter hG.mono i1 (p := p7') (z := z') (S := U) (R := R') hUl) (fun h h' hle hd => ⟨ldv_le hle hd.1, hd.2.mono hle⟩)
   (fun k hh => ∃ g : AHeap, I k g ∧ Owns g hh [.box (.ptr i6 0 0) [.yld id], .box p7' [z'], .sl 1 z' (U.map icl) R']) (fun j hh => j = 0 ∧ ∃ g : AHeap, Z g ∧ g.le hh) ?_ ?_ ⟨h, h0, oo⟩ ?_ ?_
  ·rintro k hh ⟨g, hI, og⟩
   obtain ⟨q, e, hb'⟩ := og.boxAt 1 rfl
   exact ⟨by rw [e, ldv_at hb']; rfl, og.slAt 2 rfl⟩
  ·rintro k xx hh E hxx ⟨g, hI, og⟩ hE0 hE1
   have hk : k + 1 < U.length := by
    have := (List.getElem?_eq_some_iff.1 hxx).1
    rw [pairsI_len] at this; omega
   rw [pairsI_get hk] at hxx
   cases hxx
   have dd := (hD k g hI).mono og.le
   obtain ⟨q, e6, hb6⟩ := og.boxAt 0 rfl
   cases e6
   have ly : A.ldv hh (.ptr i6 0 0) = some (.yld id) := by rw [ldv_at hb6]; rfl
   have hxk : ((U.zip U.tail).map fun p => [AVal.agg [.int .i64 p.1, .int .i64 p.2], .bool (greedy L (wantsOn W M p.1)).isSome])[k]? = some [.agg [.int .i64 U[k], .int .i64 U[k + 1]], .bool (greedy L (wantsOn W M U[k])).isSome] := by
    rw [List.getElem?_map, List.getElem?_eq_getElem (by simp; omega)]; simp
   have hy := hr k _ g hxk hI
   simp -dsimp only [W2, least_spans_1.r2, least_spans_1.k1, B.ld_eq, ly, dd.ldx, dd.ldy, dd.ldz, B.pv_some]
   simp -dsimp [ly, dd.ldx, dd.ldy, dd.ldz]
   refine s2 _ _ _ _ _ _ _ _ _ _ _ _ dd.lots dd.wants dd.parts dd.none_ (by omega) hl2 (keepS1 ⟨_, ly⟩ ?_)
   rw [B.callv_yld]
   refine og.frame hG hy fun v g' hh' hv og' => ?_
   rcases hv with ⟨e, h1⟩ | ⟨e, h1⟩
   ·simp -dsimp only [e, V.un_not, Bool.not_true, B.cond_false, B.pv_some]
    exact hE0 hh' ⟨g', h1, og'⟩
   ·simp -dsimp only [e, V.un_not, Bool.not_false, B.cond_true, B.pv_some]
    exact hE1 0 hh' ⟨rfl, g', h1, og'.le⟩
  ·rintro hh ⟨g, hI, og⟩
   refine RK.here (dn_le og.le (hend g ?_))
   have : (pairsI U).length = ((U.zip U.tail).map fun p => [AVal.agg [.int .i64 p.1, .int .i64 p.2], .bool (greedy L (wantsOn W M p.1)).isSome]).length := by simp [pairsI]
   rw [← this]; exact hI
  ·rintro j hh ⟨rfl, g, hz, hle⟩
   exact RK.there (RK.here (dn_le hle (hZ g hz)))
end Go.Ab
namespace Go.Ab
variable {C : CSem} {N : Nat → Nat}
def spanL (a b : Int) (L : List Lot) : List (Int × Int) := if min b 4000 < max a 0 then [] else (cuts (max a 0) (min b 4000) L).zip (cuts (max a 0) (min b 4000) L).tail
def canHad (L : List Lot) (W : List Want) (M : List Part) (d : Int) : Bool := (greedy L (wantsOn W M d)).isSome
theorem spansX_eq (L : List Lot) (W : List Want) (M : List Part) (a b : Int) : spansX L W M a b = (spanL a b L).map fun p => [.agg [.int .i64 p.1, .int .i64 p.2], .bool (canHad L W M p.1)] := by
 unfold spansX spanL
 split <;> rfl
def dayOf (L : List Lot) (W : List Want) (M : List Part) (a b : Int) : Int × Bool := match (spanL a b L).find? fun p => canHad L W M p.1 with
 | some p => (p.1, true)
 | none => (0, false)
def least_Day.Spec (C : CSem) (N : Nat → Nat) : Prop := ∀ (x y z : AVal) (L : List Lot) (W : List Want) (M : List Part) (R S T : List (List AVal)) (a b : Int) (h : AHeap) (Q : AVal → AHeap → Prop), SlX h 6 x (L.map Lot.cs) R → SlX h 3 y (W.map Want.cs) S → SlX h 2 z (M.map Part.cs) T →
 (∀ id b, foot y = some id → h id = some b → b.own = false) → L.length ≤ 1000000 → W.length + M.length ≤ 100000000 → Q (.tup [.int .i64 (dayOf L W M a b).1, .bool (dayOf L W M a b).2]) h → C (N 320) [x, y, z, .int .i64 a, .int .i64 b] h Q
theorem least_Day.spec (i : least_Day.Imp C N) (hG : CGood C) (s0 : least_spans.Spec C N) (i1 : least_spans_1.Imp C N) (s1 : least_ends.Spec C N) (i2 : least_ends_1.Imp C N) (s2 : least_had.Spec C N) : least_Day.Spec C N := by
 intro x y z L W M R S T a b h Q hx hy hz hno hl1 hl2 hq
 apply i
 simp -dsimp only [least_Day.cps]
 intro i10 h10
 have o1 := (Owns.start h).newBox h10 [.int .i64 0]
 intro i11 h11
 have o2 := o1.newBox h11 [.bool false]
 simp -dsimp only [least_Day.k3]
 refine s0 _ _ _ _ _ _ _ hx.isCell hy.isCell hz.isCell fun p8 p9 p5 p6 p7 h3 o3 => ?_
 have oo := o2.join o3
 have dAt : ∀ {hh : AHeap} {u v : AVal}, Owns h hh [.box (.ptr i10 0 0) [u], .box (.ptr i11 0 0) [v], .box p5 [x], .box p6 [y], .box p7 [z], .box p8 [.int .i64 a], .box p9 [.int .i64 b]] → SpansD p8 p9 p5 p6 p7 x y z a b L W M R S T hh := fun {hh u v} o => by
  have bx : ∀ {k : Nat} {p w : AVal}, ([.box (.ptr i10 0 0) [u], .box (.ptr i11 0 0) [v], .box p5 [x], .box p6 [y], .box p7 [z], .box p8 [.int .i64 a], .box p9 [.int .i64 b]] : List Ob)[k]? = some (.box p [w]) → A.ldv hh p = some w := fun hk => by
   obtain ⟨id, rfl, hb⟩ := o.boxAt _ hk
   rw [ldv_at hb]; rfl
  exact ⟨bx (k := 5) rfl, bx (k := 6) rfl, bx (k := 2) rfl, bx (k := 3) rfl, bx (k := 4) rfl, hx.mono o.le, hy.mono o.le, hz.mono o.le, fun id c hf hc => by
   obtain ⟨c', hc'⟩ := hy.known hf
   rw [o.le id c' hc'] at hc
   cases hc
   exact hno id c hf hc'⟩
 have ret : ∀ {hh : AHeap} {u v : AVal}, Owns h hh [.box (.ptr i10 0 0) [u], .box (.ptr i11 0 0) [v], .box p5 [x], .box p6 [y], .box p7 [z], .box p8 [.int .i64 a], .box p9 [.int .i64 b]] → Q (.tup [u, v]) h → B.pv (oneOf (joinV (A.ldv hh (.ptr i10 0 0)) (joinV (A.ldv hh (.ptr i11 0 0)) (some [])))) fun v => dn Q v hh := fun {hh u v} o hq => by
  obtain ⟨_, e1, b1⟩ := o.boxAt 0 rfl
  obtain ⟨_, e2, b2⟩ := o.boxAt 1 rfl
  cases e1; cases e2
  have l1 : A.ldv hh (.ptr i10 0 0) = some u := by rw [ldv_at b1]; rfl
  have l2 : A.ldv hh (.ptr i11 0 0) = some v := by rw [ldv_at b2]; rfl
  rw [l1, l2]
  exact dn_le o.le hq
 refine range_iter (least_spans_1.iter hG i1 s1 i2 s2 hl1 hl2) (fun h h' hle d => SpansD.mono d hle)
  (fun k hh => Owns h hh [.box (.ptr i10 0 0) [.int .i64 0], .box (.ptr i11 0 0) [.bool false], .box p5 [x], .box p6 [y], .box p7 [z], .box p8 [.int .i64 a], .box p9 [.int .i64 b]] ∧ ∀ j < k, ∀ p, (spanL a b L)[j]? = some p → canHad L W M p.1 = false)
  (fun j hh => j = 0 ∧ ∃ n, dayOf L W M a b = (n, true) ∧ Owns h hh [.box (.ptr i10 0 0) [.int .i64 n], .box (.ptr i11 0 0) [.bool true], .box p5 [x], .box p6 [y], .box p7 [z], .box p8 [.int .i64 a], .box p9 [.int .i64 b]]) (fun k hh hj => dAt hj.1) ?_ ⟨oo, fun j hj => absurd hj (by omega)⟩ ?_ ?_
 ·rintro k xx hh E hxx ⟨o, hn⟩ hE0 hE1
  rw [spansX_eq, List.getElem?_map] at hxx
  cases hp : (spanL a b L)[k]? with
  | none => rw [hp] at hxx; cases hxx
  | some p =>
  rw [hp] at hxx
  cases hxx
  simp -dsimp [W2, least_Day.r2, least_Day.k1]
  have f1 : V.field1 0 (.agg [.int .i64 p.1, .int .i64 p.2]) = some (.int .i64 p.1) := rfl
  refine B.cond_bool (fun hb => ?_) (fun hb => ?_)
  ·simp -dsimp only [f1, B.al, A.al, B.pv_some]
   refine o.boxSt 0 (off := 0) rfl rfl (by simp) fun h4 o4 _ => ?_
   refine o4.boxSt 1 (off := 0) rfl rfl (by simp) fun h5 o5 _ => ?_
   refine hE1 0 h5 ⟨rfl, p.1, ?_, o5⟩
   have hfind : (spanL a b L).find? (fun p => canHad L W M p.1) = some p := by
    rw [List.find?_eq_some_iff_getElem]
    refine ⟨hb, k, (List.getElem?_eq_some_iff.1 hp).1, (List.getElem?_eq_some_iff.1 hp).2, fun j hj => ?_⟩
    have := hn j hj _ (List.getElem?_eq_getElem (by have := (List.getElem?_eq_some_iff.1 hp).1; omega))
    simp [this]
   unfold dayOf
   rw [hfind]
  ·refine hE0 hh ⟨o, fun j hj q hq' => ?_⟩
   rcases Nat.lt_succ_iff_lt_or_eq.1 hj with h | rfl
   ·exact hn j h q hq'
   ·rw [hp] at hq'; cases hq'; exact hb
 ·rintro hh ⟨o, hn⟩
  refine RK.here ?_
  have hd : dayOf L W M a b = (0, false) := by
   unfold dayOf
   rw [List.find?_eq_none.2 fun p hp => ?_]
   obtain ⟨j, hj, e⟩ := List.mem_iff_getElem.1 hp
   have := hn j (by rw [spansX_eq, List.length_map]; exact hj) p (by rw [List.getElem?_eq_getElem hj, e])
   simp [this]
  rw [hd] at hq
  refine o.boxSt 0 (off := 0) rfl rfl (by simp) fun h4 o4 _ => ?_
  refine o4.boxSt 1 (off := 0) rfl rfl (by simp) fun h5 o5 _ => ?_
  exact ret o5 hq
 ·rintro j hh ⟨rfl, n, hd, o⟩
  rw [hd] at hq
  exact RK.there (RK.here (ret o hq))
end Go.Ab
namespace Go.Ab
variable {C : CSem} {N : Nat → Nat}
def okSpans (L : List Lot) (W : List Want) (M : List Part) (l : List (Int × Int)) : List Window := (l.filter fun p => canHad L W M p.1).map fun p => ⟨p.1, p.2⟩
theorem spanL_len {a b : Int} {L : List Lot} (hl : L.length ≤ 1000000) : (spanL a b L).length ≤ 3000000 := by
 unfold spanL
 split
 ·simp
 ·have q1 := compactI_len (sortI (endsRow (max a 0) (min b 4000) L))
  have q2 := (sortI_perm (endsRow (max a 0) (min b 4000) L)).length_eq
  have q3 := endsRow_len (max a 0) (min b 4000) L
  unfold cuts
  simp
  omega
def least_Days.Spec (C : CSem) (N : Nat → Nat) : Prop := ∀ (x y z : AVal) (L : List Lot) (W : List Want) (M : List Part) (R S T : List (List AVal)) (a b : Int) (h : AHeap) (Q : AVal → AHeap → Prop), SlX h 6 x (L.map Lot.cs) R → SlX h 3 y (W.map Want.cs) S → SlX h 2 z (M.map Part.cs) T →
 (∀ id b, foot y = some id → h id = some b → b.own = false) → L.length ≤ 1000000 → W.length + M.length ≤ 100000000 → (∀ v h', Owns h h' [.sl 2 v ((rows (okSpans L W M (spanL a b L))).map Window.cs) []] → Q v h') → C (N 322) [x, y, z, .int .i64 a, .int .i64 b] h Q
theorem least_Days.spec (i : least_Days.Imp C N) (hG : CGood C) (s0 : least_spans.Spec C N) (i1 : least_spans_1.Imp C N) (s1 : least_ends.Spec C N) (i2 : least_ends_1.Imp C N) (s2 : least_had.Spec C N) (s3 : window_Rows.Spec C N) : least_Days.Spec C N := by
 intro x y z L W M R S T a b h Q hx hy hz hno hl1 hl2 hq
 apply i
 have hsl := spanL_len (a := a) (b := b) hl1
 simp -dsimp only [least_Days.cps]
 intro i11 h11
 have o1 := (Owns.start h).newBox h11 [.nils]
 simp -dsimp only [least_Days.k3]
 refine s0 _ _ _ _ _ _ _ hx.isCell hy.isCell hz.isCell fun p8 p9 p5 p6 p7 h3 o3 => ?_
 have oo := (o1.join o3).nils 2
 have dAt : ∀ {hh : AHeap} {u : AVal} {l : List Ob}, Owns h hh (.box (.ptr i11 0 0) [u] :: .box p5 [x] :: .box p6 [y] :: .box p7 [z] :: .box p8 [.int .i64 a] :: .box p9 [.int .i64 b] :: l) → SpansD p8 p9 p5 p6 p7 x y z a b L W M R S T hh := fun {hh u l} o => by
  have bx : ∀ {k : Nat} {p w : AVal}, (Ob.box (.ptr i11 0 0) [u] :: .box p5 [x] :: .box p6 [y] :: .box p7 [z] :: .box p8 [.int .i64 a] :: .box p9 [.int .i64 b] :: l)[k]? = some (.box p [w]) → A.ldv hh p = some w := fun hk => by
   obtain ⟨id, rfl, hb⟩ := o.boxAt _ hk
   rw [ldv_at hb]; rfl
  exact ⟨bx (k := 4) rfl, bx (k := 5) rfl, bx (k := 1) rfl, bx (k := 2) rfl, bx (k := 3) rfl, hx.mono o.le, hy.mono o.le, hz.mono o.le, fun id c hf hc => by
   obtain ⟨c', hc'⟩ := hy.known hf
   rw [o.le id c' hc'] at hc
   cases hc
   exact hno id c hf hc'⟩
 refine range_iter (least_spans_1.iter hG i1 s1 i2 s2 hl1 hl2) (fun h h' hle d => SpansD.mono d hle)
  (fun k hh => ∃ u, Owns h hh [.box (.ptr i11 0 0) [u], .box p5 [x], .box p6 [y], .box p7 [z], .box p8 [.int .i64 a], .box p9 [.int .i64 b], .sl 2 u ((okSpans L W M ((spanL a b L).take k)).map Window.cs) []])
  (fun j hh => False) (fun k hh ⟨u, hj⟩ => dAt hj) ?_ ⟨.nils, oo⟩ ?_ (fun _ _ h => h.elim)
 ·rintro k xx hh E hxx ⟨u, o⟩ hE0 hE1
  rw [spansX_eq, List.getElem?_map] at hxx
  cases hp : (spanL a b L)[k]? with
  | none => rw [hp] at hxx; cases hxx
  | some p =>
  rw [hp] at hxx
  cases hxx
  obtain ⟨_, e1, b1⟩ := o.boxAt 0 rfl
  cases e1
  have l1 : A.ldv hh (.ptr i11 0 0) = some u := by rw [ldv_at b1]; rfl
  have et : (spanL a b L).take (k + 1) = (spanL a b L).take k ++ [p] := by rw [List.take_add_one, hp]; rfl
  have hlt : (okSpans L W M ((spanL a b L).take k)).length ≤ 3000000 := by
   unfold okSpans
   have := List.length_filter_le (fun p : Int × Int => canHad L W M p.1) ((spanL a b L).take k)
   simp at this ⊢; omega
  simp -dsimp [W2, least_Days.r2, least_Days.k1, l1]
  refine B.cond_bool (fun hb => ?_) (fun hb => ?_)
  ·have this : (okSpans L W M ((spanL a b L).take (k + 1))).map Window.cs = (okSpans L W M ((spanL a b L).take k)).map Window.cs ++ [[.int .i64 p.1, .int .i64 p.2]] := by
    unfold okSpans; rw [et, List.filter_append]; simp [hb]
   simp -dsimp [B.ld_eq, l1]
   refine o.push (bytes := 16) 6 rfl (cs := [.int .i64 p.1, .int .i64 p.2]) rfl (by omega) (by rw [List.length_map]; omega) (by rw [List.length_map]; simp only [maxLen]; omega) fun u' h4 o4 _ => ?_
   have o4 : Owns h h4 [.box (.ptr i11 0 0) [u], .box p5 [x], .box p6 [y], .box p7 [z], .box p8 [.int .i64 a], .box p9 [.int .i64 b], .sl 2 u' ((okSpans L W M ((spanL a b L).take k)).map Window.cs ++ [[.int .i64 p.1, .int .i64 p.2]]) []] := o4
   refine o4.boxSt 0 (off := 0) rfl (o4.slAt 6 rfl).isCell (by simp) fun h5 o5 _ => ?_
   exact hE0 h5 ⟨u', by rw [this]; exact o5⟩
  ·refine hE0 hh ⟨u, ?_⟩
   have : okSpans L W M ((spanL a b L).take (k + 1)) = okSpans L W M ((spanL a b L).take k) := by
    unfold okSpans; rw [et, List.filter_append]; simp [hb]
   rw [this]; exact o
 ·rintro hh ⟨u, o⟩
  refine RK.here ?_
  obtain ⟨_, e1, b1⟩ := o.boxAt 0 rfl
  cases e1
  have l1 : A.ldv hh (.ptr i11 0 0) = some u := by rw [ldv_at b1]; rfl
  simp -dsimp only [B.ld_eq, l1, B.pv_some]
  have he : (spansX L W M a b).length = (spanL a b L).length := by rw [spansX_eq, List.length_map]
  rw [he, List.take_length] at o
  have hlt : (okSpans L W M (spanL a b L)).length ≤ 3000000 := by
   unfold okSpans
   have := List.length_filter_le (fun p : Int × Int => canHad L W M p.1) (spanL a b L)
   simp at this ⊢; omega
  refine s3 _ _ _ _ _ (o.slAt 6 rfl) (by omega) fun v h' o' => dn_same (hq v h' (o'.back o.le))
end Go.Ab
namespace Go.Ab
structure CS where
 left : Lf
 need : Nat → Int
def wAt (W : List Want) (i : Nat) : Want := W.getD i ⟨[], 0, 0⟩
theorem wAt_get {W : List Want} {i : Nat} (h : i < W.length) : wAt W i = W[i] := by simp [wAt, h]
theorem wAt_out {W : List Want} {i : Nat} (h : W.length ≤ i) : wAt W i = ⟨[], 0, 0⟩ := by
 unfold wAt
 rw [List.getD_eq_getElem?_getD, List.getElem?_eq_none h]; rfl
def lotById (L : List Lot) (i : Int) : Option Lot := L.find? fun l => decide (l.Id = i)
def chkOk (W : List Want) (s : CS) (u : Use) (l : Lot) : Bool :=
 decide (0 ≤ u.Want) && decide (u.Want < (W.length : Int)) && decide (1 ≤ u.Qty) && decide (u.Qty ≤ s.left l.Id) && decide (u.Qty ≤ s.need u.Want.toNat) && serves l (wAt W u.Want.toNat)
def chkStep (s : CS) (u : Use) : CS := ⟨fun n => if n = u.Lot then s.left n - u.Qty else s.left n, fun i => if i = u.Want.toNat then s.need i - u.Qty else s.need i⟩
def chkRun (L : List Lot) (W : List Want) : CS → List Use → Option CS
 | s, [] => some s
 | s, u :: us => match lotById L u.Lot with
  | some l => bif chkOk W s u l then chkRun L W (chkStep s u) us else none
  | none => none
def csStart (L : List Lot) (W : List Want) : CS := ⟨left0 L, fun i => (wAt W i).Qty⟩
def checks (L : List Lot) (W : List Want) (us : List Use) : Bool := mayBe L W && match chkRun L W (csStart L W) us with
 | some s => (List.range W.length).all fun i => decide (s.need i = 0)
 | none => false
theorem lotById_some {L : List Lot} {i : Int} {l : Lot} (h : lotById L i = some l) : l ∈ L ∧ l.Id = i := by
 have h1 := List.find?_some h
 exact ⟨List.mem_of_find?_eq_some h, by simpa using h1⟩
theorem lotById_of {L : List Lot} (hn : (L.map Lot.Id).Nodup) {l : Lot} (h : l ∈ L) : lotById L l.Id = some l := by
 cases e : lotById L l.Id with
 | none => unfold lotById at e; rw [List.find?_eq_none] at e; have := e l h; simp at this
 | some a => have := lotById_some e; rw [id_inj hn this.1 h this.2]
structure CSOk (s : CS) : Prop where
 left : LfOk s.left
 need : ∀ i, 0 ≤ s.need i
structure ChkF (W : List Want) (s : CS) (u : Use) (l : Lot) : Prop where
 w0 : 0 ≤ u.Want
 w1 : u.Want.toNat < W.length
 q : 1 ≤ u.Qty
 ql : u.Qty ≤ s.left l.Id
 qn : u.Qty ≤ s.need u.Want.toNat
 sv : serves l (wAt W u.Want.toNat) = true
theorem chkOk_iff {W : List Want} {s : CS} {u : Use} {l : Lot} : chkOk W s u l = true ↔ ChkF W s u l := by
 simp only [chkOk, Bool.and_eq_true, decide_eq_true_eq]
 exact ⟨fun ⟨⟨⟨⟨⟨a, b⟩, c⟩, d⟩, e⟩, f⟩ => ⟨a, by omega, c, d, e, f⟩, fun ⟨a, b, c, d, e, f⟩ => ⟨⟨⟨⟨⟨a, by omega⟩, c⟩, d⟩, e⟩, f⟩⟩
theorem chkRun_cons {L : List Lot} {W : List Want} {s s' : CS} {u : Use} {us : List Use} (h : chkRun L W s (u :: us) = some s') : ∃ l, l ∈ L ∧ l.Id = u.Lot ∧ ChkF W s u l ∧ chkRun L W (chkStep s u) us = some s' := by
 unfold chkRun at h
 cases e : lotById L u.Lot with
 | none => rw [e] at h; cases h
 | some l =>
  rw [e] at h
  simp only at h
  cases c : chkOk W s u l with
  | false => rw [c] at h; cases h
  | true => rw [c] at h; exact ⟨l, (lotById_some e).1, (lotById_some e).2, chkOk_iff.1 c, h⟩
theorem chkStep_ok {W : List Want} {s : CS} {u : Use} {l : Lot} (hs : CSOk s) (hc : ChkF W s u l) (hl : l.Id = u.Lot) : CSOk (chkStep s u) := by
 refine ⟨fun n => ?_, fun i => ?_⟩ <;> unfold chkStep <;> simp only <;> split
 ·rename_i e; subst e; have := hc.ql; rw [hl] at this; omega
 ·exact hs.left n
 ·rename_i e; subst e; have := hc.qn; omega
 ·exact hs.need i
theorem chkRun_ok {L : List Lot} {W : List Want} : ∀ {us : List Use} {s s' : CS}, chkRun L W s us = some s' → CSOk s → CSOk s'
 | [], s, s', h, hs => by cases h; exact hs
 | u :: us, s, s', h, hs => by
  obtain ⟨l, h1, h2, h3, h4⟩ := chkRun_cons h
  exact chkRun_ok h4 (chkStep_ok hs h3 h2)
theorem chkRun_app {L : List Lot} {W : List Want} {vs : List Use} : ∀ {us : List Use} {s : CS}, chkRun L W s (us ++ vs) = (chkRun L W s us).bind fun s => chkRun L W s vs
 | [], s => rfl
 | u :: us, s => by
  rw [List.cons_append]
  simp only [chkRun]
  cases lotById L u.Lot with
  | none => rfl
  | some l =>
   simp only
   cases chkOk W s u l
   ·rfl
   ·exact chkRun_app
theorem chkRun_one {L : List Lot} {W : List Want} {s : CS} {u : Use} {l : Lot} (hn : (L.map Lot.Id).Nodup) (hl : l ∈ L) (he : l.Id = u.Lot) (hc : ChkF W s u l) : chkRun L W s [u] = some (chkStep s u) := by
 simp only [chkRun]
 rw [← he, lotById_of hn hl]
 simp only
 rw [chkOk_iff.2 hc]; rfl
theorem chkRun_serves {L : List Lot} {W : List Want} : ∀ {us : List Use} {s s' : CS}, chkRun L W s us = some s' → ∀ u ∈ us, ∃ l, l ∈ L ∧ l.Id = u.Lot ∧ u.Want.toNat < W.length ∧ serves l (wAt W u.Want.toNat) = true
 | [], s, s', h, u, hu => by cases hu
 | a :: us, s, s', h, u, hu => by
  obtain ⟨l, h1, h2, h3, h4⟩ := chkRun_cons h
  rcases List.mem_cons.1 hu with rfl | hu
  ·exact ⟨l, h1, h2, h3.w1, h3.sv⟩
  ·exact chkRun_serves h4 u hu
def sumF {α : Type} (f : α → Int) : List α → Int
 | [] => 0
 | a :: l => f a + sumF f l
theorem sumF_congr {α : Type} {f g : α → Int} : ∀ {l : List α}, (∀ a ∈ l, f a = g a) → sumF f l = sumF g l
 | [], _ => rfl
 | a :: l, h => by simp only [sumF]; rw [h a (by simp), sumF_congr fun b hb => h b (by simp [hb])]
theorem sumF_le {α : Type} {f g : α → Int} : ∀ {l : List α}, (∀ a ∈ l, f a ≤ g a) → sumF f l ≤ sumF g l
 | [], _ => Int.le_refl _
 | a :: l, h => by
  have h1 := h a (by simp)
  have h2 := sumF_le (l := l) fun b hb => h b (by simp [hb])
  simp only [sumF]; omega
theorem sumF_zero {α : Type} {f : α → Int} : ∀ {l : List α}, (∀ a ∈ l, f a = 0) → sumF f l = 0
 | [], _ => rfl
 | a :: l, h => by simp only [sumF]; rw [h a (by simp), sumF_zero fun b hb => h b (by simp [hb])]; rfl
theorem sumF_nn {α : Type} {f : α → Int} {l : List α} (h : ∀ a ∈ l, 0 ≤ f a) : 0 ≤ sumF f l := by
 have := sumF_le (f := fun _ => 0) (g := f) (l := l) h
 rw [sumF_zero fun _ _ => rfl] at this; exact this
theorem sumF_upd {α : Type} {f g : α → Int} {a : α} {d : Int} : ∀ {l : List α}, l.Nodup → a ∈ l → (∀ b ∈ l, b ≠ a → f b = g b) → f a = g a + d → sumF f l = sumF g l + d
 | [], _, h, _, _ => by cases h
 | b :: l, hn, ha, ho, hd => by
  simp only [List.nodup_cons] at hn
  simp only [sumF]
  by_cases e : b = a
  ·subst e
   rw [hd, sumF_congr fun c hc => ho c (by simp [hc]) fun e => hn.1 (by rw [← e]; exact hc)]
   omega
  ·have ha' : a ∈ l := by rcases List.mem_cons.1 ha with h | h; exact absurd h.symm e; exact h
   rw [ho b (by simp) e, sumF_upd hn.2 ha' (fun c hc => ho c (by simp [hc])) hd]
   omega
def nS (W : List Want) (S : Nat → Bool) (l : Lot) : Bool := (List.range W.length).any fun i => S i && serves l (wAt W i)
def needS (W : List Want) (need : Nat → Int) (S : Nat → Bool) : Int := sumF (fun i => bif S i then need i else 0) (List.range W.length)
def leftS (L : List Lot) (W : List Want) (left : Lf) (S : Nat → Bool) : Int := sumF (fun l => bif nS W S l then left l.Id else 0) L
def Hall (L : List Lot) (W : List Want) : Prop := ∀ S : Nat → Bool, needS W (csStart L W).need S ≤ leftS L W (csStart L W).left S
theorem nS_of {W : List Want} {S : Nat → Bool} {l : Lot} {i : Nat} (hi : i < W.length) (hS : S i = true) (hs : serves l (wAt W i) = true) : nS W S l = true := by
 unfold nS
 rw [List.any_eq_true]
 exact ⟨i, List.mem_range.2 hi, by rw [hS, hs]; rfl⟩
theorem nodup_of_map {α β : Type} {f : α → β} : ∀ {l : List α}, (l.map f).Nodup → l.Nodup
 | [], _ => List.Pairwise.nil
 | a :: l, h => by
  simp only [List.map_cons, List.nodup_cons] at h
  exact List.nodup_cons.2 ⟨fun ha => h.1 (List.mem_map_of_mem ha), nodup_of_map h.2⟩
theorem step_need {W : List Want} {s : CS} {u : Use} (S : Nat → Bool) (hu : u.Want.toNat < W.length) : needS W (chkStep s u).need S = needS W s.need S + (bif S u.Want.toNat then -u.Qty else 0) := by
 unfold needS
 refine sumF_upd (a := u.Want.toNat) List.nodup_range (List.mem_range.2 hu) (fun b _ hb => ?_) ?_
 ·simp [chkStep, hb]
 ·cases S u.Want.toNat <;> simp [chkStep]; omega
theorem step_left {L : List Lot} {W : List Want} {s : CS} {u : Use} {l : Lot} (S : Nat → Bool) (hn : (L.map Lot.Id).Nodup) (hl : l ∈ L) (he : l.Id = u.Lot) : leftS L W (chkStep s u).left S = leftS L W s.left S + (bif nS W S l then -u.Qty else 0) := by
 unfold leftS
 refine sumF_upd (a := l) (nodup_of_map hn) hl (fun b hb hne => ?_) ?_
 ·have : b.Id ≠ u.Lot := fun e => hne (id_inj hn hb hl (by rw [e, he]))
  simp [chkStep, this]
 ·cases nS W S l <;> simp [chkStep, he]; omega
theorem chk_phi {L : List Lot} {W : List Want} (hn : (L.map Lot.Id).Nodup) (S : Nat → Bool) : ∀ {us : List Use} {s s' : CS}, chkRun L W s us = some s' → needS W s.need S - leftS L W s.left S ≤ needS W s'.need S - leftS L W s'.left S
 | [], s, s', h => by cases h; exact Int.le_refl _
 | u :: us, s, s', h => by
  obtain ⟨l, h1, h2, h3, h4⟩ := chkRun_cons h
  have ih := chk_phi hn S h4
  rw [step_need S h3.w1, step_left S hn h1 h2] at ih
  have := h3.q
  cases hS : S u.Want.toNat with
  | true => rw [nS_of h3.w1 hS h3.sv, hS] at ih; simp only [cond_true] at ih; omega
  | false =>
   rw [hS] at ih
   cases hm : nS W S l <;> rw [hm] at ih <;> simp only [cond_true, cond_false] at ih <;> omega
theorem chk_phi_eq {L : List Lot} {W : List Want} (hn : (L.map Lot.Id).Nodup) (S : Nat → Bool) : ∀ {us : List Use} {s s' : CS}, chkRun L W s us = some s' → (∀ u ∈ us, ∀ l ∈ L, l.Id = u.Lot → nS W S l = true → S u.Want.toNat = true) →
  needS W s.need S - leftS L W s.left S = needS W s'.need S - leftS L W s'.left S
 | [], s, s', h, _ => by cases h; rfl
 | u :: us, s, s', h, hx => by
  obtain ⟨l, h1, h2, h3, h4⟩ := chkRun_cons h
  have ih := chk_phi_eq hn S h4 fun v hv => hx v (by simp [hv])
  rw [step_need S h3.w1, step_left S hn h1 h2] at ih
  cases hS : S u.Want.toNat with
  | true => rw [nS_of h3.w1 hS h3.sv, hS] at ih; simp only [cond_true] at ih; omega
  | false =>
   have hm : nS W S l = false := by
    cases hm : nS W S l with
    | false => rfl
    | true => have := hx u (by simp) l h1 h2 hm; rw [hS] at this; cases this
   rw [hS, hm] at ih
   simp only [cond_false] at ih; omega
theorem csStart_ok {L : List Lot} {W : List Want} (h : mayBe L W = true) : CSOk (csStart L W) := by
 obtain ⟨f1, f2, f3, f4, f5⟩ := mayBe_facts h
 refine ⟨left0_ok f3, fun i => ?_⟩
 simp only [csStart]
 by_cases hi : i < W.length
 ·rw [wAt_get hi]; have := wantRight_facts (f5 _ (List.getElem_mem hi)); omega
 ·rw [wAt_out (by omega)]; exact Int.le_refl _
theorem checks_hall {L : List Lot} {W : List Want} {us : List Use} (h : checks L W us = true) : mayBe L W = true ∧ Hall L W := by
 unfold checks at h
 rw [Bool.and_eq_true] at h
 obtain ⟨hm, h⟩ := h
 refine ⟨hm, fun S => ?_⟩
 obtain ⟨f1, f2, f3, f4, f5⟩ := mayBe_facts hm
 cases e : chkRun L W (csStart L W) us with
 | none => rw [e] at h; cases h
 | some s =>
  rw [e] at h
  simp only [List.all_eq_true, decide_eq_true_eq] at h
  have ok := chkRun_ok e (csStart_ok hm)
  have ph := chk_phi f4 S e
  have z : needS W s.need S = 0 := sumF_zero fun i hi => by rw [h i hi]; cases S i <;> rfl
  have nn : 0 ≤ leftS L W s.left S := sumF_nn fun l _ => by
   cases nS W S l
   ·exact Int.le_refl _
   ·exact ok.left _
  omega
end Go.Ab
namespace Go.Ab
def bef (W : List Want) (i j : Nat) : Prop := (wAt W i).Day < (wAt W j).Day ∨ ((wAt W i).Day = (wAt W j).Day ∧ i < j)
theorem bef_of {W : List Want} {a b : Fin W.length} (h : before W a b) : bef W a.val b.val := by
 unfold bef before at *
 rw [wAt_get a.2, wAt_get b.2]; exact h
theorem bef_total {W : List Want} {i j : Nat} (h : i ≠ j) : bef W i j ∨ bef W j i := by unfold bef; omega
theorem bef_day {W : List Want} {i j : Nat} (h : i = j ∨ bef W i j) : (wAt W i).Day ≤ (wAt W j).Day := by
 rcases h with rfl | h
 ·exact Int.le_refl _
 ·unfold bef at h; omega
structure GInv (L : List Lot) (W : List Want) (lim : Nat → Prop) (cur : Nat → Int) (left : Lf) (out : List Use) : Prop where
 run : chkRun L W (csStart L W) out = some ⟨left, cur⟩
 E : ∀ u ∈ out, ∀ m ∈ L, ∀ m' ∈ L, m'.Id = u.Lot → lotCmp m m' < 0 → serves m (wAt W u.Want.toNat) = true → left m.Id = 0
 R : out.Pairwise fun u v => (∀ m ∈ L, ∀ m' ∈ L, m.Id = v.Lot → m'.Id = u.Lot → lotCmp m m' < 0 → serves m (wAt W u.Want.toNat) = true → False) ∧ (u.Want.toNat = v.Want.toNat ∨ bef W u.Want.toNat v.Want.toNat)
 M : ∀ u ∈ out, lim u.Want.toNat
theorem serves_iff {l : Lot} {w : Want} : serves l w = true ↔ l.Item = w.Item ∧ Window.has ⟨l.From, l.Until⟩ w.Day = true := by
 simp [serves]
theorem GInv.step {L : List Lot} {W : List Want} (hn : (L.map Lot.Id).Nodup) (hstart : CSOk (csStart L W)) {p : Nat} (hp : p < W.length) {lim : Nat → Prop} (hlim : lim p) (hlp : ∀ q, lim q → q = p ∨ bef W q p) {cur : Nat → Int} {st : FS5} {pre : List Lot} {l : Lot} (hl : l ∈ L) (hi : l.Item = (wAt W p).Item)
  (hpre : ∀ m ∈ L, m.Item = (wAt W p).Item → lotCmp m l < 0 → m ∈ pre)
  (g : GInv L W lim (fun i => if i = p then st.need else cur i) st.left st.out) (hk : st.need = 0 ∨ ∀ m ∈ pre, serves m (wAt W p) = true → st.left m.Id = 0) :
  GInv L W lim (fun i => if i = p then (stepU (p : Int) (wAt W p) st l).need else cur i) (stepU (p : Int) (wAt W p) st l).left (stepU (p : Int) (wAt W p) st l).out ∧
  ((stepU (p : Int) (wAt W p) st l).need = 0 ∨ ∀ m ∈ pre ++ [l], serves m (wAt W p) = true → (stepU (p : Int) (wAt W p) st l).left m.Id = 0) := by
 have ok := chkRun_ok g.run hstart
 have hneed : 0 ≤ st.need := by have := ok.need p; simpa using this
 have hok : FSOk st := ⟨ok.left, hneed⟩
 have tk := takeOf_nn hok l
 by_cases hc : takeOf st l = 0 ∨ Window.has ⟨l.From, l.Until⟩ (wAt W p).Day = false
 ·have e : stepU (p : Int) (wAt W p) st l = st := by unfold stepU; rw [if_pos hc]
  rw [e]
  refine ⟨g, ?_⟩
  by_cases h0 : st.need = 0
  ·exact .inl h0
  ·right
   intro m hm hs
   rcases List.mem_append.1 hm with hm | hm
   ·exact (hk.resolve_left h0) m hm hs
   ·rw [List.mem_singleton.1 hm] at hs ⊢
    rcases hc with hc | hc
    ·unfold takeOf at hc
     have := ok.left l.Id
     simp only at this
     omega
    ·rw [(serves_iff.1 hs).2] at hc; cases hc
 ·have e : stepU (p : Int) (wAt W p) st l = ⟨fun n => if n = l.Id then st.left l.Id - takeOf st l else st.left n, st.need - takeOf st l, st.out ++ [⟨p, l.Id, takeOf st l⟩]⟩ := by unfold stepU; rw [if_neg hc]
  have h1 : takeOf st l ≠ 0 := fun h => hc (.inl h)
  have h2 : Window.has ⟨l.From, l.Until⟩ (wAt W p).Day = true := by
   cases h : Window.has ⟨l.From, l.Until⟩ (wAt W p).Day
   ·exact absurd (.inr h) hc
   ·rfl
  have hsv : serves l (wAt W p) = true := serves_iff.2 ⟨hi, h2⟩
  have hk' := hk.resolve_left (by omega)
  rw [e]
  refine ⟨⟨?_, ?_, ?_, ?_⟩, ?_⟩
  ·rw [chkRun_app, g.run]
   simp only [Option.bind_some]
   rw [chkRun_one hn hl rfl ⟨by simp, by simpa using hp, by simp only; omega, by simp only; omega, by simp; omega, by simpa using hsv⟩]
   simp only [chkStep, Int.toNat_natCast]
   congr 2
   ·funext n; split
    ·rename_i e; subst e; rfl
    ·rfl
   ·funext i; split <;> rfl
  ·intro u hu m hm m' hm' hid hlt hs
   simp only
   split
   ·rename_i em
    have hml : m = l := id_inj hn hm hl em
    subst hml
    rcases List.mem_append.1 hu with hu | hu
    ·have := g.E u hu m hm m' hm' hid hlt hs; omega
    ·rw [List.mem_singleton.1 hu] at hid
     have : m' = m := id_inj hn hm' hl hid
     subst this
     have := lotW.irr m'
     unfold lessC at this
     rw [decide_eq_false_iff_not] at this
     exact absurd hlt this
   ·rcases List.mem_append.1 hu with hu | hu
    ·exact g.E u hu m hm m' hm' hid hlt hs
    ·rw [List.mem_singleton.1 hu] at hid hs
     have : m' = l := id_inj hn hm' hl hid
     subst this
     simp only [Int.toNat_natCast] at hs
     exact hk' m (hpre m hm (serves_iff.1 hs).1 hlt) hs
  ·rw [List.pairwise_append]
   refine ⟨g.R, List.pairwise_singleton _ _, fun u hu v hv => ?_⟩
   rw [List.mem_singleton.1 hv]
   refine ⟨fun m hm m' hm' h3 h4 h5 h6 => ?_, ?_⟩
   ·have hml : m = l := id_inj hn hm hl h3
    subst hml
    have := g.E u hu m hm m' hm' h4 h5 h6; omega
   ·have := hlp _ (g.M u hu)
    simpa using this
  ·intro u hu
   rcases List.mem_append.1 hu with hu | hu
   ·exact g.M u hu
   ·rw [List.mem_singleton.1 hu]; simpa using hlim
  ·simp only
   by_cases h0 : st.need - takeOf st l = 0
   ·exact .inl h0
   ·right
    intro m hm hs
    split
    ·unfold takeOf at *; omega
    ·rcases List.mem_append.1 hm with hm | hm
     ·exact hk' m hm hs
     ·rename_i ne; rw [List.mem_singleton.1 hm] at ne; exact absurd rfl ne
theorem rowOf_mem {L : List Lot} {w : Want} {m : Lot} : m ∈ rowOf L w ↔ m ∈ L ∧ m.Item = w.Item := by
 unfold rowOf
 rw [List.mem_filter, (sortLots_perm L).mem_iff]; simp
theorem rowOf_up (L : List Lot) (w : Want) : (rowOf L w).Pairwise fun a b => lessC lotCmp b a = false := (sortLots_up L).filter _
theorem GInv.row {L : List Lot} {W : List Want} (hn : (L.map Lot.Id).Nodup) (hstart : CSOk (csStart L W)) {p : Nat} (hp : p < W.length) {lim : Nat → Prop} (hlim : lim p) (hlp : ∀ q, lim q → q = p ∨ bef W q p) {cur : Nat → Int} :
  ∀ (post pre : List Lot) {st : FS5}, pre ++ post = rowOf L (wAt W p) → GInv L W lim (fun i => if i = p then st.need else cur i) st.left st.out → (st.need = 0 ∨ ∀ m ∈ pre, serves m (wAt W p) = true → st.left m.Id = 0) →
   GInv L W lim (fun i => if i = p then (post.foldl (stepU (p : Int) (wAt W p)) st).need else cur i) (post.foldl (stepU (p : Int) (wAt W p)) st).left (post.foldl (stepU (p : Int) (wAt W p)) st).out ∧
   ((post.foldl (stepU (p : Int) (wAt W p)) st).need = 0 ∨ ∀ m ∈ rowOf L (wAt W p), serves m (wAt W p) = true → (post.foldl (stepU (p : Int) (wAt W p)) st).left m.Id = 0)
 | [], pre, st, he, g, hk => by rw [List.append_nil] at he; rw [← he]; exact ⟨g, hk⟩
 | l :: post, pre, st, he, g, hk => by
  have hl : l ∈ rowOf L (wAt W p) := by rw [← he]; simp
  obtain ⟨hl1, hl2⟩ := rowOf_mem.1 hl
  have hs := g.step hn hstart hp hlim hlp hl1 hl2 (pre := pre) (fun m hm hi hlt => by
   have hm' : m ∈ rowOf L (wAt W p) := rowOf_mem.2 ⟨hm, hi⟩
   rw [← he] at hm'
   rcases List.mem_append.1 hm' with h | h
   ·exact h
   ·have hup := rowOf_up L (wAt W p)
    rw [← he, List.pairwise_append] at hup
    have := hup.2.1
    rcases List.mem_cons.1 h with rfl | h
    ·have := lotW.irr m
     unfold lessC at this; rw [decide_eq_false_iff_not] at this
     exact absurd hlt this
    ·have := (List.pairwise_cons.1 this).1 m h
     unfold lessC at this; rw [decide_eq_false_iff_not] at this
     exact absurd hlt this) hk
  exact GInv.row hn hstart hp hlim hlp post (pre ++ [l]) (by simpa using he) hs.1 hs.2
structure Stuck (L : List Lot) (W : List Want) (p : Nat) (cur : Nat → Int) (left : Lf) (out : List Use) : Prop where
 inv : GInv L W (fun q => q = p ∨ bef W q p) cur left out
 lt : p < W.length
 pos : 0 < cur p
 none_ : ∀ m ∈ L, serves m (wAt W p) = true → left m.Id = 0
theorem fillAll_inv {L : List Lot} {W : List Want} (hn : (L.map Lot.Id).Nodup) (hstart : CSOk (csStart L W)) :
  ∀ (ps A : List (Fin W.length)) {left : Lf} {out : List Use}, A ++ ps = dayOrder W → GInv L W (fun q => ∃ a ∈ A, a.val = q) (fun i => if ∃ a ∈ A, a.val = i then 0 else (wAt W i).Qty) left out →
   (∀ us lf, fillAll L W ps left out = some (us, lf) → ∃ cur, chkRun L W (csStart L W) us = some ⟨lf, cur⟩ ∧ ∀ i < W.length, cur i = 0) ∧
   (fillAll L W ps left out = none → ∃ p cur lf us, Stuck L W p cur lf us)
 | [], A, left, out, he, g => by
  rw [List.append_nil] at he
  refine ⟨fun us lf h => ?_, fun h => by cases h⟩
  cases h
  refine ⟨_, g.run, fun i hi => ?_⟩
  rw [if_pos]
  exact ⟨⟨i, hi⟩, by rw [he]; exact dayOrder_mem W _, rfl⟩
 | p :: ps, A, left, out, he, g => by
  have hup := dayOrder_up W
  rw [← he, List.pairwise_append] at hup
  have hnp : ¬ ∃ a ∈ A, a.val = p.val := fun ⟨a, ha, e⟩ => by
   have := hup.2.2 a ha p (by simp)
   rw [Fin.ext e] at this
   exact before_irr W _ this
  have hw : wAt W p.val = W[p] := wAt_get p.2
  have hst := GInv.row hn hstart (p := p.val) p.2 (lim := fun q => (∃ a ∈ A, a.val = q) ∨ q = p.val) (.inr rfl) (fun q hq => by
   rcases hq with ⟨a, ha, rfl⟩ | rfl
   ·exact .inr (bef_of (hup.2.2 a ha p (by simp)))
   ·exact .inl rfl) (cur := fun i => if ∃ a ∈ A, a.val = i then 0 else (wAt W i).Qty) (rowOf L (wAt W p.val)) [] (st := ⟨left, W[p].Qty, out⟩) rfl (by
    have e : (fun i => if i = p.val then W[p].Qty else if ∃ a ∈ A, a.val = i then 0 else (wAt W i).Qty) = fun i => if ∃ a ∈ A, a.val = i then 0 else (wAt W i).Qty := by
     funext i
     by_cases ei : i = p.val
     ·subst ei; rw [if_pos rfl, if_neg hnp, hw]
     ·rw [if_neg ei]
    simp only at e ⊢
    rw [e]
    exact ⟨g.run, g.E, g.R, fun u hu => .inl (g.M u hu)⟩) (.inr (by simp))
  have efold : (rowOf L (wAt W p.val)).foldl (stepU (p.val : Int) (wAt W p.val)) ⟨left, W[p].Qty, out⟩ = fillOne L (p.val : Int) W[p] left out := by unfold fillOne; rw [hw]
  rw [efold] at hst
  obtain ⟨g2, hk⟩ := hst
  have ok2 := chkRun_ok g2.run hstart
  have hn2 : 0 ≤ (fillOne L (p.val : Int) W[p] left out).need := by have := ok2.need p.val; simpa using this
  by_cases hc : 0 < (fillOne L (p.val : Int) W[p] left out).need
  ·refine ⟨fun us lf h => ?_, fun _ => ⟨p.val, fun i => if i = p.val then (fillOne L (p.val : Int) W[p] left out).need else if ∃ a ∈ A, a.val = i then 0 else (wAt W i).Qty, (fillOne L (p.val : Int) W[p] left out).left, (fillOne L (p.val : Int) W[p] left out).out, ⟨?_, p.2, by simpa using hc, fun m hm hs => ?_⟩⟩⟩
   ·simp only [fillAll, if_pos hc] at h; cases h
   ·exact ⟨g2.run, g2.E, g2.R, fun u hu => by
     rcases g2.M u hu with ⟨a, ha, e⟩ | e
     ·right; rw [← e]; exact bef_of (hup.2.2 a ha p (by simp))
     ·exact .inl e⟩
   ·rcases hk with hk | hk
    ·omega
    ·exact hk m (rowOf_mem.2 ⟨hm, (serves_iff.1 hs).1⟩) hs
  ·have ih := fillAll_inv hn hstart ps (A ++ [p]) (left := (fillOne L (p.val : Int) W[p] left out).left) (out := (fillOne L (p.val : Int) W[p] left out).out) (by simpa using he) (by
    have e : (fun i => if i = p.val then (fillOne L (p.val : Int) W[p] left out).need else if ∃ a ∈ A, a.val = i then 0 else (wAt W i).Qty) = fun i => if ∃ a ∈ A ++ [p], a.val = i then 0 else (wAt W i).Qty := by
     funext i
     by_cases ei : i = p.val
     ·subst ei; rw [if_pos rfl, if_pos ⟨p, by simp, rfl⟩]; omega
     ·rw [if_neg ei]
      by_cases ea : ∃ a ∈ A, a.val = i
      ·obtain ⟨a, ha, e⟩ := ea
       rw [if_pos ⟨a, ha, e⟩, if_pos ⟨a, by simp [ha], e⟩]
      ·rw [if_neg ea, if_neg]
       rintro ⟨a, ha, e⟩
       rcases List.mem_append.1 ha with ha | ha
       ·exact ea ⟨a, ha, e⟩
       ·rw [List.mem_singleton.1 ha] at e; exact ei e.symm
    rw [← e]
    exact ⟨g2.run, g2.E, g2.R, fun u hu => by
     rcases g2.M u hu with ⟨a, ha, e⟩ | e
     ·exact ⟨a, by simp [ha], e⟩
     ·exact ⟨p, by simp, e.symm⟩⟩)
   simp only [fillAll, if_neg hc]
   exact ih
inductive Way (L : List Lot) (W : List Want) (P : Nat) (out : List Use) : Nat → Prop
 | base : Way L W P out P
 | step {p : Nat} {m : Lot} {u : Use} : Way L W P out p → m ∈ L → serves m (wAt W p) = true → u ∈ out → u.Lot = m.Id → u.Want.toNat = p ∨ bef W u.Want.toNat p → Way L W P out u.Want.toNat
theorem has_of {l : Lot} {d d' : Int} {m : Lot} (h : Window.has ⟨l.From, l.Until⟩ d = true) (hm : Window.has ⟨m.From, m.Until⟩ d' = true) (hd : d ≤ d') (hu : ¬ lotCmp l m < 0) : Window.has ⟨l.From, l.Until⟩ d' = true := by
 simp only [Window.has, Bool.and_eq_true, decide_eq_true_eq] at *
 rw [lotCmp_neg] at hu
 refine ⟨⟨h.1.1, by omega⟩, by omega⟩
section
variable {L : List Lot} {W : List Want} {P : Nat} {cur : Nat → Int} {left : Lf} {out : List Use}
theorem Way.item (hn : (L.map Lot.Id).Nodup) (s : Stuck L W P cur left out) {q : Nat} (h : Way L W P out q) : (wAt W q).Item = (wAt W P).Item ∧ q < W.length := by
 induction h with
 | base => exact ⟨rfl, s.lt⟩
 | step w hm hs hu he hb ih =>
  obtain ⟨l, h1, h2, h3, h4⟩ := chkRun_serves s.inv.run _ hu
  have := id_inj hn h1 hm (by rw [h2, he])
  subst this
  exact ⟨by rw [← ih.1, ← (serves_iff.1 h4).1, (serves_iff.1 hs).1], h3⟩
theorem Way.over (hn : (L.map Lot.Id).Nodup) (s : Stuck L W P cur left out) {q : Nat} (h : Way L W P out q) : ∀ l ∈ L, serves l (wAt W q) = true → left l.Id = 0 := by
 induction h with
 | base => exact s.none_
 | @step p m u w hm hs hu he hb ih =>
  intro l hl hls
  by_cases hc : lotCmp l m < 0
  ·exact s.inv.E _ hu l hl m hm he.symm hc hls
  ·refine ih l hl ?_
   obtain ⟨l', h1, h2, h3, h4⟩ := chkRun_serves s.inv.run _ hu
   have := id_inj hn h1 hm (by rw [h2, he])
   subst this
   obtain ⟨i1, a1⟩ := serves_iff.1 hls
   obtain ⟨i2, a2⟩ := serves_iff.1 hs
   obtain ⟨i3, a3⟩ := serves_iff.1 h4
   exact serves_iff.2 ⟨by rw [i1, ← i3, i2], has_of a1 a2 (bef_day hb) hc⟩
theorem Way.all (hn : (L.map Lot.Id).Nodup) (s : Stuck L W P cur left out) {q : Nat} (h : Way L W P out q) : ∀ m ∈ L, serves m (wAt W q) = true → ∀ v ∈ out, v.Lot = m.Id → Way L W P out v.Want.toNat := by
 induction h with
 | base => intro m hm hs v hv he; exact .step .base hm hs hv he (s.inv.M v hv)
 | @step p m' u w hm' hs' hu he' hb ih =>
  intro m hm hs v hv he
  have hwq : Way L W P out u.Want.toNat := .step w hm' hs' hu he' hb
  by_cases hx : v.Want.toNat = u.Want.toNat ∨ bef W v.Want.toNat u.Want.toNat
  ·exact .step hwq hm hs hv he hx
  ·have hvu : v.Want.toNat ≠ u.Want.toNat := fun e => hx (.inl e)
   have hbv : bef W u.Want.toNat v.Want.toNat := by
    rcases bef_total hvu with h | h
    ·exact absurd (.inr h) hx
    ·exact h
   by_cases hc : lotCmp m m' < 0
   ·exfalso
    obtain ⟨i, hi, ei⟩ := List.getElem_of_mem hu
    obtain ⟨j, hj, ej⟩ := List.getElem_of_mem hv
    have hp := List.pairwise_iff_getElem.1 s.inv.R
    rcases Nat.lt_trichotomy i j with hij | hij | hij
    ·have := (hp i j hi hj hij).1
     rw [ei, ej] at this
     exact this m hm m' hm' he.symm he'.symm hc hs
    ·subst hij; rw [ei] at ej; subst ej; exact hvu rfl
    ·have := (hp j i hj hi hij).2
     rw [ei, ej] at this
     exact hx this
   ·refine ih m hm ?_ v hv he
    obtain ⟨l', h1, h2, h3, h4⟩ := chkRun_serves s.inv.run _ hu
    have := id_inj hn h1 hm' (by rw [h2, he'])
    subst this
    obtain ⟨i1, a1⟩ := serves_iff.1 hs
    obtain ⟨i2, a2⟩ := serves_iff.1 hs'
    obtain ⟨i3, a3⟩ := serves_iff.1 h4
    exact serves_iff.2 ⟨by rw [i1, ← i3, i2], has_of a1 a2 (bef_day hb) hc⟩
open Classical in
theorem stuck_hall (hn : (L.map Lot.Id).Nodup) (hstart : CSOk (csStart L W)) (s : Stuck L W P cur left out) : ∃ S : Nat → Bool, (∀ i, S i = true → i < W.length ∧ (wAt W i).Item = (wAt W P).Item) ∧ leftS L W (csStart L W).left S < needS W (csStart L W).need S := by
 refine ⟨fun i => decide (Way L W P out i), fun i hi => ?_, ?_⟩
 ·have := Way.item hn s (of_decide_eq_true hi)
  exact ⟨this.2, this.1⟩
 ·have ok := chkRun_ok s.inv.run hstart
  have ph := chk_phi_eq hn (fun i => decide (Way L W P out i)) s.inv.run (fun u hu l hl he hm => by
   unfold nS at hm
   rw [List.any_eq_true] at hm
   obtain ⟨i, _, hi⟩ := hm
   rw [Bool.and_eq_true] at hi
   exact decide_eq_true (Way.all hn s (of_decide_eq_true hi.1) l hl hi.2 u hu he.symm))
  have hz : leftS L W left (fun i => decide (Way L W P out i)) = 0 := sumF_zero fun l hl => by
   cases hm : nS W (fun i => decide (Way L W P out i)) l with
   | false => rfl
   | true =>
    unfold nS at hm
    rw [List.any_eq_true] at hm
    obtain ⟨i, _, hi⟩ := hm
    rw [Bool.and_eq_true] at hi
    exact Way.over hn s (of_decide_eq_true hi.1) l hl hi.2
  have hpos : 0 < needS W cur (fun i => decide (Way L W P out i)) := by
   have h1 := sumF_upd (f := fun i => bif decide (Way L W P out i) then cur i else 0) (g := fun i => if i = P then 0 else bif decide (Way L W P out i) then cur i else 0) (a := P) (d := cur P) (l := List.range W.length) List.nodup_range (List.mem_range.2 s.lt) (fun b _ hb => by simp [hb]) (by simp [Way.base])
   have h2 : 0 ≤ sumF (fun i => if i = P then 0 else bif decide (Way L W P out i) then cur i else 0) (List.range W.length) := sumF_nn fun i _ => by
    have := ok.need i
    simp only at this
    split
    ·exact Int.le_refl _
    ·cases decide (Way L W P out i)
     ·exact Int.le_refl _
     ·exact this
   have := s.pos
   simp only [needS]
   omega
  simp only at ph
  omega
end
theorem greedy_inv {L : List Lot} {W : List Want} (h : mayBe L W = true) :
  (∀ us lf, greedy L W = some (us, lf) → ∃ cur, chkRun L W (csStart L W) us = some ⟨lf, cur⟩ ∧ ∀ i < W.length, cur i = 0) ∧
  (greedy L W = none → ∃ p cur lf us, Stuck L W p cur lf us) := by
 obtain ⟨f1, f2, f3, f4, f5⟩ := mayBe_facts h
 have e : greedy L W = fillAll L W (dayOrder W) (left0 L) [] := by unfold greedy; rw [h]; rfl
 rw [e]
 refine fillAll_inv f4 (csStart_ok h) (dayOrder W) [] rfl ⟨?_, by simp, List.Pairwise.nil, by simp⟩
 simp [chkRun, csStart]
theorem greedy_checks {L : List Lot} {W : List Want} {us : List Use} {lf : Lf} (h : greedy L W = some (us, lf)) : mayBe L W = true ∧ checks L W us = true := by
 have hm : mayBe L W = true := by
  unfold greedy at h
  cases hm : mayBe L W with
  | true => rfl
  | false => rw [hm] at h; cases h
 obtain ⟨cur, h1, h2⟩ := (greedy_inv hm).1 us lf h
 refine ⟨hm, ?_⟩
 unfold checks
 rw [hm, h1]
 simp only [Bool.true_and, List.all_eq_true, decide_eq_true_eq]
 exact fun i hi => h2 i (List.mem_range.1 hi)
theorem greedy_why {L : List Lot} {W : List Want} (hm : mayBe L W = true) (h : greedy L W = none) : ∃ S : Nat → Bool, (∃ p < W.length, S p = true ∧ ∀ i, S i = true → i < W.length ∧ (wAt W i).Item = (wAt W p).Item) ∧ leftS L W (csStart L W).left S < needS W (csStart L W).need S := by
 obtain ⟨f1, f2, f3, f4, f5⟩ := mayBe_facts hm
 obtain ⟨p, cur, lf, us, s⟩ := (greedy_inv hm).2 h
 obtain ⟨S, h1, h2⟩ := stuck_hall f4 (csStart_ok hm) s
 by_cases hS : ∃ q, S q = true
 ·obtain ⟨q, hq⟩ := hS
  exact ⟨S, ⟨q, (h1 q hq).1, hq, fun i hi => ⟨(h1 i hi).1, by rw [(h1 i hi).2, (h1 q hq).2]⟩⟩, h2⟩
 ·exfalso
  have e : needS W (csStart L W).need S = 0 := sumF_zero fun i _ => by
   cases hi : S i with
   | false => rfl
   | true => exact absurd ⟨i, hi⟩ hS
  have : 0 ≤ leftS L W (csStart L W).left S := sumF_nn fun l _ => by
   cases nS W S l
   ·exact Int.le_refl _
   ·exact (csStart_ok hm).left _
  omega
theorem greedy_hall {L : List Lot} {W : List Want} (hm : mayBe L W = true) : (greedy L W).isSome = true ↔ Hall L W := by
 constructor
 ·intro h
  cases e : greedy L W with
  | none => rw [e] at h; cases h
  | some x => exact (checks_hall (greedy_checks (us := x.1) (lf := x.2) e).2).2
 ·intro h
  cases e : greedy L W with
  | some x => rfl
  | none =>
   obtain ⟨S, _, hS⟩ := greedy_why hm e
   have := h S
   omega
end Go.Ab
namespace Go.Ab
theorem sumF_map {α β : Type} (f : β → Int) (g : α → β) : ∀ l : List α, sumF f (l.map g) = sumF (fun a => f (g a)) l
 | [] => rfl
 | a :: l => by simp only [List.map_cons, sumF]; rw [sumF_map f g l]
theorem wAt_range (W : List Want) : (List.range W.length).map (wAt W) = W := by
 apply List.ext_getElem?
 intro i
 by_cases hi : i < W.length
 ·rw [List.getElem?_map, List.getElem?_range hi, Option.map_some, wAt_get hi, List.getElem?_eq_getElem hi]
 ·rw [List.getElem?_eq_none (by simp; omega), List.getElem?_eq_none (by omega)]
theorem wAt_in {W : List Want} {i : Nat} (h : i < W.length) : wAt W i ∈ W := by rw [wAt_get h]; exact List.getElem_mem h
def wantS' (W : List Want) (T : Want → Bool) : Int := sumF (fun w => bif T w then w.Qty else 0) W
def haveS (L : List Lot) (W : List Want) (T : Want → Bool) : Int := sumF (fun l => bif W.any (fun w => T w && serves l w) then l.Qty else 0) L
def HallW (L : List Lot) (W : List Want) : Prop := ∀ T : Want → Bool, wantS' W T ≤ haveS L W T
theorem hall_iff {L : List Lot} {W : List Want} (hn : (L.map Lot.Id).Nodup) (hw : ∀ w ∈ W, 0 ≤ w.Qty) : Hall L W ↔ HallW L W := by
 have eL : ∀ S, leftS L W (csStart L W).left S = sumF (fun l => bif nS W S l then l.Qty else 0) L := fun S => sumF_congr fun l hl => by
  simp only [csStart]; rw [left0_of hn hl]
 have eN : ∀ T : Want → Bool, wantS' W T = sumF (fun i => bif T (wAt W i) then (wAt W i).Qty else 0) (List.range W.length) := fun T => by
  unfold wantS'
  conv => lhs; rw [← wAt_range W]
  rw [sumF_map]
 constructor
 ·intro h T
  have := h fun i => T (wAt W i)
  rw [eL] at this
  rw [eN]
  refine Int.le_trans this (Int.le_of_eq ?_)
  unfold haveS
  refine sumF_congr fun l hl => ?_
  have : nS W (fun i => T (wAt W i)) l = W.any fun w => T w && serves l w := by
   unfold nS
   conv => rhs; rw [← wAt_range W]
   rw [List.any_map]; rfl
  rw [this]
 ·intro h S
  have := h fun w => (List.range W.length).any fun i => S i && decide (wAt W i = w)
  rw [eN] at this
  rw [eL]
  refine Int.le_trans ?_ (Int.le_trans this (Int.le_of_eq ?_))
  ·unfold needS
   refine sumF_le fun i hi => ?_
   simp only [csStart]
   have hi' := List.mem_range.1 hi
   have nn := hw _ (wAt_in hi')
   cases hS : S i with
   | true =>
    have : ((List.range W.length).any fun j => S j && decide (wAt W j = wAt W i)) = true := List.any_eq_true.2 ⟨i, hi, by simp [hS]⟩
    rw [this]; exact Int.le_refl _
   | false => simp only [cond_false]; cases (List.range W.length).any fun j => S j && decide (wAt W j = wAt W i) <;> simp [nn]
  ·unfold haveS
   refine sumF_congr fun l hl => ?_
   have : (W.any fun w => ((List.range W.length).any fun i => S i && decide (wAt W i = w)) && serves l w) = nS W S l := by
    rw [Bool.eq_iff_iff]
    unfold nS
    simp only [List.any_eq_true, Bool.and_eq_true, decide_eq_true_eq, List.mem_range]
    constructor
    ·rintro ⟨w, _, ⟨i, hi, hS, rfl⟩, hs⟩; exact ⟨i, hi, hS, hs⟩
    ·rintro ⟨i, hi, hS, hs⟩; exact ⟨_, wAt_in hi, ⟨i, hi, hS, rfl⟩, hs⟩
   rw [this]
theorem HallW.less {L : List Lot} {W : List Want} {w : Want} (hq : 0 ≤ w.Qty) (h : HallW L (w :: W)) : HallW L W := fun T => by
 have := h fun v => T v && decide (v ∈ W)
 unfold wantS' haveS at *
 simp only [sumF] at this
 have h1 : sumF (fun v => bif T v && decide (v ∈ W) then v.Qty else 0) W = sumF (fun v => bif T v then v.Qty else 0) W := sumF_congr fun v hv => by simp [hv]
 have h2 : 0 ≤ (bif T w && decide (w ∈ W) then w.Qty else 0) := by
  cases T w && decide (w ∈ W)
  ·exact Int.le_refl _
  ·exact hq
 have h3 : sumF (fun l => bif (w :: W).any (fun v => (T v && decide (v ∈ W)) && serves l v) then l.Qty else 0) L = sumF (fun l => bif W.any (fun v => T v && serves l v) then l.Qty else 0) L := sumF_congr fun l _ => by
  have : ((w :: W).any fun v => (T v && decide (v ∈ W)) && serves l v) = W.any fun v => T v && serves l v := by
   rw [Bool.eq_iff_iff]
   simp only [List.any_eq_true, Bool.and_eq_true, decide_eq_true_eq, List.mem_cons]
   constructor
   ·rintro ⟨v, _, ⟨a, b⟩, c⟩; exact ⟨v, b, a, c⟩
   ·rintro ⟨v, b, a, c⟩; exact ⟨v, .inr b, ⟨a, b⟩, c⟩
  rw [this]
 rw [h3] at this
 omega
theorem mayBe_iff {L : List Lot} {W : List Want} : mayBe L W = true ↔ L.length ≤ 300 ∧ W.length ≤ 20000 ∧ (∀ l ∈ L, lotRight l = true) ∧ (L.map Lot.Id).Nodup ∧ ∀ w ∈ W, wantRight w = true := by
 refine ⟨mayBe_facts, fun ⟨a, b, c, d, e⟩ => ?_⟩
 simp only [mayBe, Bool.and_eq_true, decide_eq_true_eq, List.all_eq_true]
 exact ⟨⟨⟨⟨a, b⟩, c⟩, d⟩, e⟩
theorem greedy_may {L : List Lot} {W : List Want} (h : (greedy L W).isSome = true) : mayBe L W = true := by
 cases e : greedy L W with
 | none => rw [e] at h; cases h
 | some x => exact (greedy_checks (us := x.1) (lf := x.2) e).1
end Go.Ab
namespace Go.Ab
variable {C : CSem} {N : Nat → Nat}
def dayFrom (L : List Lot) (W : List Want) (M : List Part) (d : Int) : Nat → Int × Bool
 | 0 => (0, false)
 | n + 1 => if canHad L W M d then (d, true) else dayFrom L W M (d + 1) n
end Go.Ab
namespace Go.Ab
variable {C : CSem} {N : Nat → Nat}
def cov (L : List Window) (d : Nat) : Bool := L.any fun w => decide (w.From ≤ d) && decide ((d : Int) < w.Until)
def rrows (L : List Window) : List Window := if L.all Window.right then ofTo (cov L) 4001 else []
end Go.Ab
namespace Go.Ab
theorem opn_cov (L : List Window) (hL : ∀ w ∈ L, w.right = true) (d : Nat) : 0 < opn L (d + 1) ↔ cov L d = true := by
 rw [opn_eq L hL]
 have key : (L.countP fun w => decide (w.From < ((d + 1 : Nat) : Int))) = (L.countP fun w => decide (w.Until < ((d + 1 : Nat) : Int))) + L.countP fun w => decide (w.From ≤ (d : Int)) && decide ((d : Int) < w.Until) := by
  induction L with
  | nil => rfl
  | cons w r ih =>
   have ih := ih fun w hw => hL w (by simp [hw])
   have hw := hL w (by simp)
   simp only [Window.right, Bool.and_eq_true, decide_eq_true_eq] at hw
   simp only [List.countP_cons, Bool.and_eq_true, decide_eq_true_eq]
   rw [ih]
   split <;> split <;> split <;> omega
 have h2 : cov L d = true ↔ 0 < L.countP fun w => decide (w.From ≤ (d : Int)) && decide ((d : Int) < w.Until) := by
  rw [List.countP_pos_iff]; simp [cov, List.any_eq_true]
 rw [h2]
 omega
theorem rows_of (L : List Window) (hL : ∀ w ∈ L, w.right = true) : ∀ d, (0 < opn L d → ∃ S w, ofTo (cov L) d = S ++ [w] ∧ w.Until = (d : Int) ∧ rowsTo L d = S ++ [⟨w.From, 0⟩]) ∧
  (opn L d = 0 → rowsTo L d = ofTo (cov L) d ∧ ∀ w ∈ (ofTo (cov L) d).getLast?, w.Until < (d : Int))
 | 0 => ⟨fun h => by simp [opn] at h, fun _ => ⟨rfl, by simp [ofTo]⟩⟩
 | d + 1 => by
  obtain ⟨i1, i2⟩ := rows_of L hL d
  have p0 := opn_le L hL d
  have p1 := opn_le L hL (d + 1)
  have hc := opn_cov L hL d
  by_cases h0 : opn L d = 0
  ·obtain ⟨e, hl⟩ := i2 h0
   by_cases h1 : 0 < opn L (d + 1)
   ·refine ⟨fun _ => ⟨ofTo (cov L) d, ⟨d, d + 1⟩, ?_, by simp, ?_⟩, fun h => by omega⟩
    ·simp only [ofTo, ofStep, hc.1 h1, if_true]
     rw [if_neg]
     rintro ⟨hne, hlast⟩
     rw [List.getLast?_eq_some_getLast hne] at hlast hl
     have := hl _ rfl
     simp at hlast
     omega
    ·simp only [rowsTo, rowStep]
     rw [if_pos ⟨h0, h1⟩, e]
   ·refine ⟨fun h => absurd h h1, fun _ => ?_⟩
    have hf : cov L d = false := by rw [← Bool.not_eq_true]; exact fun hh => h1 (hc.2 hh)
    have e1 : ofTo (cov L) (d + 1) = ofTo (cov L) d := by simp [ofTo, ofStep, hf]
    have e2 : rowsTo L (d + 1) = rowsTo L d := by simp only [rowsTo, rowStep]; rw [if_neg (by omega), if_neg (by omega)]
    rw [e1, e2]
    exact ⟨e, fun w hw => by have := hl w hw; omega⟩
  ·obtain ⟨S, w, e1, e2, e3⟩ := i1 (by omega)
   by_cases h1 : 0 < opn L (d + 1)
   ·refine ⟨fun _ => ⟨S, ⟨w.From, d + 1⟩, ?_, by simp, ?_⟩, fun h => by omega⟩
    ·simp only [ofTo, ofStep, hc.1 h1, if_true]
     rw [e1, if_pos ⟨by simp, by simp [e2]⟩]
     simp
    ·simp only [rowsTo, rowStep]
     rw [if_neg (by omega), if_neg (by omega), e3]
   ·refine ⟨fun h => absurd h h1, fun _ => ?_⟩
    have hf : cov L d = false := by rw [← Bool.not_eq_true]; exact fun hh => h1 (hc.2 hh)
    have e4 : ofTo (cov L) (d + 1) = ofTo (cov L) d := by simp [ofTo, ofStep, hf]
    have e5 : rowsTo L (d + 1) = S ++ [w] := by
     simp only [rowsTo, rowStep]
     rw [if_neg (by omega), if_pos (by omega), e3]
     simp [← e2]
    rw [e4, e5, e1]
    exact ⟨rfl, fun z hz => by simp at hz; subst hz; omega⟩
theorem rows_eq (L : List Window) : rows L = rrows L := by
 unfold rows rrows
 split
 ·rename_i ha
  have hL := List.all_eq_true.1 ha
  have hf : cov L 4001 = false := by
   rw [← Bool.not_eq_true]
   intro h
   obtain ⟨w, hw, h2⟩ := List.any_eq_true.1 h
   have := hL w hw
   simp [Window.right] at this h2
   omega
  have h0 : opn L 4002 = 0 := by
   have h1 := opn_le L hL 4002
   have h2 := opn_cov L hL 4001
   rw [hf] at h2
   have : ¬ 0 < opn L (4001 + 1) := fun h => by have := h2.1 h; cases this
   have : ¬ 0 < opn L 4002 := this
   omega
  rw [((rows_of L hL 4002).2 h0).1]
  show ofStep (cov L) (ofTo (cov L) 4001) 4001 = _
  simp [ofStep, hf]
 ·rfl
theorem ofTo_span {p : Nat → Bool} {a b : Nat} : ∀ n, (∀ d, d < n → (p d = true ↔ a ≤ d ∧ d < b)) → ofTo p n = if a < min b n then [⟨a, (min b n : Nat)⟩] else []
 | 0, _ => by simp [ofTo]
 | n + 1, h => by
  have ih := ofTo_span n fun d hd => h d (by omega)
  have hn := h n (by omega)
  simp only [ofTo, ofStep, ih]
  by_cases hp : p n = true
  ·have h1 := hn.1 hp
   rw [if_pos hp]
   have e' : min b (n + 1) = n + 1 := by omega
   by_cases h2 : a < n
   ·have e : min b n = n := by omega
    have c1 : a < n + 1 := by omega
    simp [e, e', h2, c1]
   ·have c2 : ¬ a < min b n := by omega
    have c1 : a < n + 1 := by omega
    have e : a = n := by omega
    rw [if_neg c2, e', if_pos c1]
    simp [e]
  ·have h1 : ¬ (a ≤ n ∧ n < b) := fun hh => hp (hn.2 hh)
   rw [if_neg hp]
   by_cases h2 : a < min b n
   ·rw [if_pos h2, if_pos (by omega)]
    congr 2; omega
   ·rw [if_neg h2, if_neg (by omega)]
end Go.Ab
set_option maxRecDepth 100000
namespace Go.Ab
variable {C : CSem} {N : Nat → Nat}
theorem meet_spec (a b : Window) : (∃ f u, meet a b = (⟨f, u⟩, true) ∧ f < u ∧ f = max a.From b.From ∧ u = min a.Until b.Until ∧ a.right = true ∧ b.right = true) ∨
  (meet a b = (.zero, false) ∧ (a.right = true → b.right = true → min a.Until b.Until ≤ max a.From b.From)) := by
 unfold meet
 by_cases h : (a.right && b.right) = true
 ·rw [if_pos h]
  simp only [Bool.and_eq_true] at h
  unfold within
  by_cases h2 : min a.Until b.Until ≤ max a.From b.From
  ·rw [if_pos h2]; exact .inr ⟨rfl, fun _ _ => h2⟩
  ·rw [if_neg h2]; exact .inl ⟨_, _, rfl, by omega, rfl, rfl, h.1, h.2⟩
 ·rw [if_neg h]
  exact .inr ⟨rfl, fun h1 h2 => by rw [h1, h2] at h; exact absurd rfl h⟩
theorem right_iff (w : Window) : w.right = true ↔ 0 ≤ w.From ∧ w.From ≤ w.Until ∧ w.Until ≤ 4001 := by
 simp [Window.right, and_assoc]
end Go.Ab
namespace Go.Ab
theorem wantsOn_len {W : List Want} {M : List Part} {d : Int} : (wantsOn W M d).length = W.length + M.length := by unfold wantsOn; simp
theorem wantsOn_at {W : List Want} {M : List Part} {d : Int} {i : Nat} (h : i < (wantsOn W M d).length) : (i < W.length ∧ ∀ e, wAt (wantsOn W M e) i = wAt W i) ∨ (∃ p ∈ M, ∀ e, wAt (wantsOn W M e) i = ⟨p.Item, e, p.Qty⟩) := by
 rw [wantsOn_len] at h
 by_cases hi : i < W.length
 ·left
  refine ⟨hi, fun e => ?_⟩
  rw [wAt_get hi, wAt_get (by rw [wantsOn_len]; omega)]
  unfold wantsOn
  rw [List.getElem_append_left hi]
 ·right
  have hj : i - W.length < M.length := by omega
  refine ⟨M[i - W.length], List.getElem_mem hj, fun e => ?_⟩
  rw [wAt_get (by rw [wantsOn_len]; omega)]
  unfold wantsOn
  rw [List.getElem_append_right (by omega), List.getElem_map]
theorem wantsOn_right {W : List Want} {M : List Part} {d e : Int} (he : 0 ≤ e ∧ e ≤ 4000) (h : ∀ w ∈ wantsOn W M d, wantRight w = true) : ∀ w ∈ wantsOn W M e, wantRight w = true := fun w hw => by
 unfold wantsOn at h hw
 rcases List.mem_append.1 hw with hw | hw
 ·exact h w (List.mem_append_left _ hw)
 ·obtain ⟨p, hp, rfl⟩ := List.mem_map.1 hw
  have := h _ (List.mem_append_right _ (List.mem_map_of_mem hp))
  simp only [wantRight, Bool.and_eq_true, decide_eq_true_eq] at this ⊢
  exact ⟨⟨⟨⟨this.1.1.1.1, he.1⟩, he.2⟩, this.1.2⟩, this.2⟩
theorem canHad_may {L : List Lot} {W : List Want} {M : List Part} {d : Int} (h : canHad L W M d = true) : mayBe L (wantsOn W M d) = true := greedy_may h
theorem canHad_shift {L : List Lot} {W : List Want} {M : List Part} {d e : Int} (he : 0 ≤ e ∧ e ≤ 4000) (hs : (∀ l ∈ L, lotRight l = true) → ∀ l ∈ L, Window.has ⟨l.From, l.Until⟩ d = true → Window.has ⟨l.From, l.Until⟩ e = true) (h : canHad L W M d = true) : canHad L W M e = true := by
 have hm := canHad_may h
 obtain ⟨f1, f2, f3, f4, f5⟩ := mayBe_iff.1 hm
 have hm' : mayBe L (wantsOn W M e) = true := mayBe_iff.2 ⟨f1, by rw [wantsOn_len] at f2 ⊢; exact f2, f3, f4, wantsOn_right he f5⟩
 have hh := (greedy_hall hm).1 h
 refine (greedy_hall hm').2 fun S => ?_
 have e1 : needS (wantsOn W M e) (csStart L (wantsOn W M e)).need S = needS (wantsOn W M d) (csStart L (wantsOn W M d)).need S := by
  unfold needS
  rw [wantsOn_len, wantsOn_len]
  refine sumF_congr fun i hi => ?_
  have hi := List.mem_range.1 hi
  rcases wantsOn_at (M := M) (d := d) (i := i) (W := W) (by rw [wantsOn_len]; exact hi) with ⟨_, hw⟩ | ⟨p, _, hw⟩
  ·simp only [csStart, hw]
  ·simp only [csStart, hw]
 rw [e1]
 refine Int.le_trans (hh S) ?_
 unfold leftS
 refine sumF_le fun l hl => ?_
 have h0 : 0 ≤ (csStart L (wantsOn W M d)).left l.Id := (csStart_ok hm).left _
 have : (csStart L (wantsOn W M e)).left l.Id = (csStart L (wantsOn W M d)).left l.Id := rfl
 rw [this]
 cases hn : nS (wantsOn W M d) S l with
 | false => simp only [cond_false]; cases nS (wantsOn W M e) S l <;> simp only [cond_false, cond_true] <;> omega
 | true =>
  have : nS (wantsOn W M e) S l = true := by
   unfold nS at hn
   rw [List.any_eq_true] at hn
   obtain ⟨i, hi, hi2⟩ := hn
   have hi := List.mem_range.1 hi
   rw [Bool.and_eq_true] at hi2
   refine nS_of (i := i) (by rw [wantsOn_len] at hi ⊢; exact hi) hi2.1 ?_
   have hsv := serves_iff.1 hi2.2
   rcases wantsOn_at hi with ⟨_, hw⟩ | ⟨p, _, hw⟩
   ·rw [hw] at hsv ⊢; exact hi2.2 |> fun _ => serves_iff.2 hsv
   ·rw [hw] at hsv ⊢
    exact serves_iff.2 ⟨hsv.1, hs f3 l hl hsv.2⟩
  rw [this]; exact Int.le_refl _
theorem has_iff {f u d : Int} : Window.has ⟨f, u⟩ d = true ↔ (0 ≤ f ∧ f ≤ u ∧ u ≤ 4001) ∧ f ≤ d ∧ d < u := by
 simp only [Window.has, Window.right, Bool.and_eq_true, decide_eq_true_eq, and_assoc]
theorem canHad_back {L : List Lot} {W : List Want} {M : List Part} {d : Int} (h0 : 0 < d) (h1 : d ≤ 4000) (hn : ∀ l ∈ L, l.From ≠ d) (h : canHad L W M d = true) : canHad L W M (d - 1) = true :=
 canHad_shift (by omega) (fun _ l hl hh => by rw [has_iff] at hh ⊢; have := hn l hl; omega) h
theorem canHad_same {L : List Lot} {W : List Want} {M : List Part} {a b d : Int} (ha : 0 ≤ a) (hb : b ≤ 4000) (h1 : a < d) (h2 : d ≤ b) (hn : d ∉ endsRow a b L) : canHad L W M d = canHad L W M (d - 1) := by
 have key : (∀ l ∈ L, lotRight l = true) → ∀ l ∈ L, l.From ≠ d ∧ l.Until ≠ d := fun hr l hl => by
  obtain ⟨_, _, _, _, wr, lt⟩ := lotRight_facts (hr l hl)
  have wr' := wr
  rw [right_iff] at wr'
  have hw : Window.right ⟨a, b + 1⟩ = true := (right_iff _).2 ⟨ha, by simp only; omega, by simp only; omega⟩
  simp only at wr'
  have ins : ∀ c, c ∈ endsOf ⟨a, b + 1⟩ l → c ∈ endsRow a b L := fun c hc => List.mem_append_right _ (List.mem_flatMap.2 ⟨l, hl, hc⟩)
  have me : max l.From a < min l.Until (b + 1) → endsOf ⟨a, b + 1⟩ l = [max l.From a, min l.Until (b + 1)] := fun hlt => by
   unfold endsOf meet within
   rw [wr, hw]
   simp only [Bool.and_self, if_true]
   rw [if_neg (by omega)]
  constructor
  ·intro e
   refine hn (ins d ?_)
   rw [me (by omega)]
   refine List.mem_cons.2 (.inl (by omega))
  ·intro e
   refine hn (ins d ?_)
   rw [me (by omega)]
   refine List.mem_cons_of_mem _ (List.mem_singleton.2 (by omega))
 rw [Bool.eq_iff_iff]
 constructor
 ·refine canHad_shift (by omega) fun hr l hl hh => ?_
  have := key hr l hl
  rw [has_iff] at hh ⊢; omega
 ·refine canHad_shift (by omega) fun hr l hl hh => ?_
  have := key hr l hl
  rw [has_iff] at hh ⊢; omega
theorem compactI_mem {d : Int} : ∀ {l : List Int}, d ∈ compactI l ↔ d ∈ l
 | [] => Iff.rfl
 | [a] => Iff.rfl
 | a :: b :: r => by
  have ih := compactI_mem (d := d) (l := b :: r)
  simp only [compactI]
  split
  ·rename_i e; subst e
   rw [ih]; simp
  ·rw [List.mem_cons, ih, List.mem_cons (b := a)]
theorem compactI_up : ∀ {l : List Int}, l.Pairwise (fun s t => s ≤ t) → (compactI l).Pairwise (fun s t => s < t)
 | [], _ => .nil
 | [a], _ => List.pairwise_singleton _ _
 | a :: b :: r, h => by
  have ih := compactI_up (List.pairwise_cons.1 h).2
  simp only [compactI]
  split
  ·exact ih
  ·rename_i e
   refine List.pairwise_cons.2 ⟨fun c hc => ?_, ih⟩
   have h1 := (List.pairwise_cons.1 h).1
   have h2 := (List.pairwise_cons.1 (List.pairwise_cons.1 h).2).1
   have hab := h1 b (List.mem_cons_self ..)
   rcases List.mem_cons.1 (compactI_mem.1 hc) with rfl | hc
   ·omega
   ·have := h2 c hc; omega
theorem cuts_mem {a b : Int} {L : List Lot} {d : Int} : d ∈ cuts a b L ↔ d ∈ endsRow a b L := by
 unfold cuts
 rw [compactI_mem, (sortI_perm _).mem_iff]
theorem cuts_up (a b : Int) (L : List Lot) : (cuts a b L).Pairwise (fun s t => s < t) := compactI_up (sortI_sorted _)
theorem ends_in {a b : Int} (hab : a ≤ b) {L : List Lot} {d : Int} (h : d ∈ endsRow a b L) : a ≤ d ∧ d ≤ b + 1 := by
 unfold endsRow at h
 rcases List.mem_append.1 h with h | h
 ·simp only [List.mem_cons, List.not_mem_nil, or_false] at h; omega
 ·obtain ⟨l, _, h⟩ := List.mem_flatMap.1 h
  unfold endsOf at h
  rcases meet_spec ⟨l.From, l.Until⟩ ⟨a, b + 1⟩ with ⟨f, u, e, h1, h2, h3, _, _⟩ | e
  ·rw [e] at h
   simp only [List.mem_cons, List.not_mem_nil, or_false] at h h2 h3
   omega
  ·rw [e.1] at h; simp at h
inductive Chain (b : Int) : List Int → Int → Prop
 | last : Chain b [b + 1] (b + 1)
 | more {u v : Int} {r : List Int} (h : u < v) (c : Chain b (v :: r) v) : Chain b (u :: v :: r) u
theorem chain_of {b : Int} : ∀ {l : List Int} {u : Int}, l.Pairwise (fun s t => s < t) → (∀ d ∈ l, u ≤ d ∧ d ≤ b + 1) → u ∈ l → b + 1 ∈ l → Chain b l u
 | [], u, _, _, h, _ => by cases h
 | [c], u, _, _, h, h' => by
  have e1 := List.mem_singleton.1 h
  have e2 := List.mem_singleton.1 h'
  subst e1; subst e2; exact .last
 | c :: d :: r, u, hp, hb, h, h' => by
  have hp' := List.pairwise_cons.1 hp
  have hc := hb c (List.mem_cons_self ..)
  have e : u = c := by
   rcases List.mem_cons.1 h with e | h
   ·exact e
   ·have := hp'.1 u h; omega
  subst e
  have hcd := hp'.1 d (List.mem_cons_self ..)
  refine .more hcd (chain_of hp'.2 (fun x hx => ⟨?_, (hb x (List.mem_cons_of_mem _ hx)).2⟩) (List.mem_cons_self ..) ?_)
  ·rcases List.mem_cons.1 hx with rfl | hx
   ·exact Int.le_refl _
   ·have := (List.pairwise_cons.1 hp'.2).1 x hx; omega
  ·rcases List.mem_cons.1 h' with e | h'
   ·have := (hb d (List.mem_cons_of_mem _ (List.mem_cons_self ..))).2; omega
   ·exact h'
theorem cuts_chain {a b : Int} (hab : a ≤ b) (L : List Lot) : Chain b (cuts a b L) a :=
 chain_of (cuts_up a b L) (fun d hd => ends_in hab (cuts_mem.1 hd)) (cuts_mem.2 (by unfold endsRow; simp)) (cuts_mem.2 (by unfold endsRow; simp))
theorem Chain.le {b : Int} : ∀ {l : List Int} {u : Int}, Chain b l u → u ≤ b + 1 ∧ ∀ d ∈ l, u ≤ d ∧ d ≤ b + 1
 | _, _, .last => ⟨Int.le_refl _, fun d hd => by rw [List.mem_singleton.1 hd]; exact ⟨Int.le_refl _, Int.le_refl _⟩⟩
 | _, _, .more h c => by
  have ih := c.le
  refine ⟨by omega, fun d hd => ?_⟩
  rcases List.mem_cons.1 hd with rfl | hd
  ·omega
  ·have := ih.2 d hd; omega
theorem alike {f : Int → Bool} {u v : Int} (h : ∀ d, u < d → d < v → f d = f (d - 1)) : ∀ n : Nat, u + (n : Int) < v → f (u + (n : Int)) = f u
 | 0, _ => by simp
 | n + 1, hn => by
  have ih := alike h n (by omega)
  rw [h (u + ((n + 1 : Nat) : Int)) (by omega) hn, show u + ((n + 1 : Nat) : Int) - 1 = u + (n : Int) by omega, ih]
theorem alike_in {f : Int → Bool} {u v d : Int} (h : ∀ d, u < d → d < v → f d = f (d - 1)) (h1 : u ≤ d) (h2 : d < v) : f d = f u := by
 have := alike h (d - u).toNat (by omega)
 rw [show u + ((d - u).toNat : Int) = d by omega] at this; exact this
theorem dayFrom_skip {L : List Lot} {W : List Want} {M : List Part} : ∀ (k n : Nat) (u : Int), (∀ d, u ≤ d → d < u + (k : Int) → canHad L W M d = false) → dayFrom L W M u (k + n) = dayFrom L W M (u + (k : Int)) n
 | 0, n, u, _ => by simp
 | k + 1, n, u, h => by
  rw [show k + 1 + n = (k + n) + 1 by omega]
  simp only [dayFrom]
  rw [h u (Int.le_refl _) (by omega)]
  simp only [Bool.false_eq_true, if_false]
  rw [dayFrom_skip k n (u + 1) fun d h1 h2 => h d (by omega) (by omega), show u + 1 + (k : Int) = u + ((k + 1 : Nat) : Int) by omega]
theorem chain_day {L : List Lot} {W : List Want} {M : List Part} {b : Int} : ∀ {l : List Int} {u : Int}, Chain b l u → (∀ d, u < d → d ≤ b → d ∉ l → canHad L W M d = canHad L W M (d - 1)) →
  (match (l.zip l.tail).find? fun p => canHad L W M p.1 with | some p => (p.1, true) | none => ((0 : Int), false)) = dayFrom L W M u (b + 1 - u).toNat
 | _, _, .last, _ => by simp [dayFrom]
 | _, _, .more (u := u) (v := v) (r := r) h c, ha => by
  have hc := c.le
  have hin : ∀ d, u < d → d < v → canHad L W M d = canHad L W M (d - 1) := fun d h1 h2 => ha d h1 (by omega) fun hm => by
   rcases List.mem_cons.1 hm with e | hm
   ·omega
   ·have := hc.2 d hm; omega
  simp only [List.tail_cons, List.zip_cons_cons, List.find?_cons]
  cases hu : canHad L W M u with
  | true =>
   obtain ⟨n, hn⟩ : ∃ n, (b + 1 - u).toNat = n + 1 := ⟨(b + 1 - u).toNat - 1, by omega⟩
   rw [hn]
   simp only [dayFrom, hu, if_true]
  | false =>
   have ih := chain_day c fun d h1 h2 hm => ha d (by omega) h2 fun hm' => by
    rcases List.mem_cons.1 hm' with e | hm'
    ·omega
    ·exact hm hm'
   simp only [List.tail_cons] at ih
   have hk : (b + 1 - u).toNat = (v - u).toNat + (b + 1 - v).toNat := by omega
   rw [hk, dayFrom_skip _ _ _ fun d h1 h2 => by rw [alike_in hin h1 (by omega)]; exact hu, show u + ((v - u).toNat : Int) = v by omega]
   exact ih
theorem dayOf_eq (L : List Lot) (W : List Want) (M : List Part) (a b : Int) : dayOf L W M a b = dayFrom L W M (max a 0) (min b 4000 - max a 0 + 1).toNat := by
 unfold dayOf spanL
 by_cases h : min b 4000 < max a 0
 ·rw [if_pos h, show (min b 4000 - max a 0 + 1).toNat = 0 by omega]
  rfl
 ·rw [if_neg h, show min b 4000 - max a 0 + 1 = min b 4000 + 1 - max a 0 by omega]
  exact chain_day (cuts_chain (by omega) L) fun d h1 h2 hm => canHad_same (a := max a 0) (b := min b 4000) (by omega) (by omega) h1 h2 fun hh => hm (cuts_mem.2 hh)
end Go.Ab
namespace Go.Ab
variable {C : CSem} {N : Nat → Nat}
def rList {T : Type} (one : Rdr → T × Rdr) : Nat → Rdr → List T × Rdr
 | 0, r => ([], r)
 | n + 1, r => if r.bad then ([], r) else ((one r).1 :: (rList one n (one r).2).1, (rList one n (one r).2).2)
structure ReadsAt (h0 : AHeap) (x : AVal) (b : List UInt8) : Prop where
 is : ∃ R, SlX h0 1 x (b.map bc) R
 lt : b.length < 4611686018427387904
def tellZero : TellP := ⟨0, 0, 0, [], 0, [], []⟩
theorem Owns.boxStn {h0 h : AHeap} {l : List Ob} (ho : Owns h0 h l) (k : Nat) {id n : Nat} {cs xs : List AVal} {K : AHeap → Prop} (hk : l[k]? = some (.box (.ptr id 0 0) cs)) (hn : xs.length = n) (hc : cs.length = n)
  (hK : ∀ h', Owns h0 h' (l.set k (.box (.ptr id 0 0) xs)) → But (.ptr id 0 0) h h' → K h') : A.stn h (.ptr id 0 0) n (.agg xs) K := by
 obtain ⟨id', e, hb⟩ := ho.boxAt k hk
 cases e
 rw [stn_at hb hn (by omega)]
 have e1 : cs.take 0 ++ xs ++ cs.drop (0 + n) = xs := by simp [← hc]
 rw [e1]
 have hbut : But (.ptr id 0 0) h (upd h id (blkOf xs)) := fun j b e1 e2 => by rw [upd_other]; exact e1; intro e; subst e; exact e2 rfl
 exact hK _ (ho.turn k hk ⟨id, rfl, upd_same ..⟩ (fun j b hj hb' => by cases hj; rw [upd_same] at hb'; cases hb'; rfl) hbut (.inl rfl)) hbut
def tellEnd (t : TellP) (r : Rdr) : TellP × Nat × Int := if r.bad || !tellRight t then (tellZero, 0, 4) else (t, r.at_, 0)
@[simp] def TellP.val (g : TellP × Nat × Int) (x y : AVal) : AVal := .tup [.agg (g.1.cs x y), .int .i64 (g.2.1 : Int), .int .i64 g.2.2]
theorem tell_Get.fin (s : tell_Right.Spec C N) {h hh : AHeap} {i2 : Nat} {p x : AVal} {cs2 : List AVal} {t : TellP} {r : Rdr} {lx ly : AVal} {Q : AVal → AHeap → Prop} (ho : Owns h hh [.box (.ptr i2 0 0) cs2, .box p [x, .int .i64 (r.at_ : Int), .bool r.bad], .sl 6 lx (t.Lots.map Lot.cs) [], .sl 3 ly (t.Uses.map Use.cs) []])
  (hc : cs2.length = 7) (hl1 : t.Lots.length ≤ 65535) (hl2 : t.Uses.length ≤ 65535)
  (hq : ∀ x' y' h', Owns h h' [.sl 6 x' ((tellEnd t r).1.Lots.map Lot.cs) [], .sl 3 y' ((tellEnd t r).1.Uses.map Use.cs) []] → Q (TellP.val (tellEnd t r) x' y') h') : tell_Get.k1 C N (dn Q) (.ptr i2 0 0) p (.agg (t.cs lx ly)) hh := by
 obtain ⟨id, rfl, hbx⟩ := ho.boxAt 1 rfl
 simp +contextual -dsimp [ldv_at hbx]
 refine B.gdb_call (fun _ _ hq => s t lx ly _ _ ⟨⟨_, ho.slAt 2 rfl⟩, ⟨_, ho.slAt 3 rfl⟩⟩ (by omega) (by omega) hq) ?_
 simp +contextual -dsimp
 refine B.cond_bool (fun h1 => ?_) (fun h1 => ?_)
 ·have e : tellEnd t r = (tellZero, 0, 4) := by unfold tellEnd; rw [if_pos]; simpa using h1
  rw [e] at hq
  try simp +contextual -dsimp
  refine ho.boxStn 0 rfl rfl hc fun h2 ho2 _ => ?_
  obtain ⟨id', e', hb2⟩ := ho2.boxAt 0 rfl
  cases e'
  simp -dsimp [ldnv_at hb2]
  refine dn_same (hq .nils .nils h2 ?_)
  exact ((Owns.nil ho2.le).nils 6).nils 3
 ·have e : tellEnd t r = (t, r.at_, 0) := by unfold tellEnd; rw [if_neg]; simpa using h1
  rw [e] at hq
  try simp +contextual -dsimp
  simp -dsimp [ldv_at hbx]
  refine ho.boxStn 0 rfl rfl hc fun h2 ho2 _ => ?_
  obtain ⟨id', e', hb2⟩ := ho2.boxAt 0 rfl
  cases e'
  obtain ⟨id', e', hb3⟩ := ho2.boxAt 1 rfl
  cases e'
  refine ⟨fun q hq => ?_, ?_⟩
  ·rw [List.mem_singleton.1 hq]
   exact ⟨.int .i64 (r.at_ : Int), by rw [ldv_at hbx]; rfl, by rw [ldv_at hb3]; rfl⟩
  ·simp -dsimp [ldnv_at hb2]
   exact dn_same (hq lx ly h2 (ho2.sub (by simp)))
theorem ref14_Get.fin (s : ref14_Right.Spec C N) {h hh : AHeap} {i2 : Nat} {p x : AVal} {cs2 : List AVal} {t : TellP} {r : Rdr} {lx ly : AVal} {Q : AVal → AHeap → Prop} (ho : Owns h hh [.box (.ptr i2 0 0) cs2, .box p [x, .int .i64 (r.at_ : Int), .bool r.bad], .sl 6 lx (t.Lots.map Lot.cs) [], .sl 3 ly (t.Uses.map Use.cs) []])
  (hc : cs2.length = 7) (hl1 : t.Lots.length ≤ 65535) (hl2 : t.Uses.length ≤ 65535)
  (hq : ∀ x' y' h', Owns h h' [.sl 6 x' ((tellEnd t r).1.Lots.map Lot.cs) [], .sl 3 y' ((tellEnd t r).1.Uses.map Use.cs) []] → Q (TellP.val (tellEnd t r) x' y') h') : ref14_Get.k1 C N (dn Q) (.ptr i2 0 0) p (.agg (t.cs lx ly)) hh := by
 obtain ⟨id, rfl, hbx⟩ := ho.boxAt 1 rfl
 simp +contextual -dsimp [ldv_at hbx]
 refine B.gdb_call (fun _ _ hq => s t lx ly _ _ ⟨⟨_, ho.slAt 2 rfl⟩, ⟨_, ho.slAt 3 rfl⟩⟩ (by omega) (by omega) hq) ?_
 simp +contextual -dsimp
 refine B.cond_bool (fun h1 => ?_) (fun h1 => ?_)
 ·have e : tellEnd t r = (tellZero, 0, 4) := by unfold tellEnd; rw [if_pos]; simpa using h1
  rw [e] at hq
  try simp +contextual -dsimp
  refine ho.boxStn 0 rfl rfl hc fun h2 ho2 _ => ?_
  obtain ⟨id', e', hb2⟩ := ho2.boxAt 0 rfl
  cases e'
  simp -dsimp [ldnv_at hb2]
  refine dn_same (hq .nils .nils h2 ?_)
  exact ((Owns.nil ho2.le).nils 6).nils 3
 ·have e : tellEnd t r = (t, r.at_, 0) := by unfold tellEnd; rw [if_neg]; simpa using h1
  rw [e] at hq
  try simp +contextual -dsimp
  simp -dsimp [ldv_at hbx]
  refine ho.boxStn 0 rfl rfl hc fun h2 ho2 _ => ?_
  obtain ⟨id', e', hb2⟩ := ho2.boxAt 0 rfl
  cases e'
  obtain ⟨id', e', hb3⟩ := ho2.boxAt 1 rfl
  cases e'
  refine ⟨fun q hq => ?_, ?_⟩
  ·rw [List.mem_singleton.1 hq]
   exact ⟨.int .i64 (r.at_ : Int), by rw [ldv_at hbx]; rfl, by rw [ldv_at hb3]; rfl⟩
  ·simp -dsimp [ldnv_at hb2]
   exact dn_same (hq lx ly h2 (ho2.sub (by simp)))
theorem ref14_Get.uses (s1 : ref13_Reader_Number.Spec C N) {b : List UInt8} {x lx : AVal} {i2 : Nat} {p : AVal} {bs hh : AHeap} {Q : AVal → AHeap → Prop} {e i d : Int} {c : List UInt8} {s : UInt8} {z : Nat} {r1 : Rdr} (hx : ReadsAt bs x b) (hcx : lx.isCell = true) (hz : z ≤ 65535) (hr1 : r1.at_ ≤ b.length)
  (ho : Owns bs hh [.box p [x, .int .i64 (r1.at_ : Int), .bool r1.bad]])
  (hk : ∀ o h', Owns bs h' [.sl 3 o ((rList (rUse b) z r1).1.map Use.cs) [], .box p [x, .int .i64 ((rList (rUse b) z r1).2.at_ : Int), .bool (rList (rUse b) z r1).2.bad]] → ref14_Get.k1 C N Q (.ptr i2 0 0) p (.agg [.int .i64 e, .int .i64 i, .int .i64 d, .str c, .int .u8 (s.toNat : Int), lx, o]) h') :
  LoopR (ref14_Get.l3 C N Q (.ptr i2 0 0) p) [.int .i64 (z : Int), .agg [.int .i64 e, .int .i64 i, .int .i64 d, .str c, .int .u8 (s.toNat : Int), lx, .nils]] hh := by
 obtain ⟨⟨R, hxx⟩, hb⟩ := hx
 refine LoopR.intro (fun t vs hh => ∃ (o : AVal) (acc : List Use) (r : Rdr), vs = [.int .i64 (t : Int), .agg [.int .i64 e, .int .i64 i, .int .i64 d, .str c, .int .u8 (s.toNat : Int), lx, o]] ∧ t ≤ 65535 ∧ acc.length + t ≤ 65535 ∧ r.at_ ≤ b.length ∧ acc ++ (rList (rUse b) t r).1 = (rList (rUse b) z r1).1 ∧ (rList (rUse b) t r).2 = (rList (rUse b) z r1).2 ∧
   Owns bs hh [.sl 3 o (acc.map Use.cs) [], .box p [x, .int .i64 (r.at_ : Int), .bool r.bad]]) z ?_ ⟨.nils, [], r1, rfl, by omega, by simp; omega, hr1, rfl, rfl, (ho.nils 3).perm (List.Perm.swap ..)⟩
 rintro Y t vs hh ⟨o, acc, r, rfl, ht, hal, hr, e1, e2, ho⟩ hY
 obtain ⟨id, rfl, hbx⟩ := ho.boxAt 1 rfl
 simp +contextual -dsimp [ldv_at hbx]
 refine B.cond_bool (fun h2 => ?_) (fun h2 => ?_) <;> simp at h2
 ·obtain ⟨t, rfl⟩ : ∃ u, t = u + 1 := ⟨t - 1, by omega⟩
  simp only [rList, h2.2, Bool.false_eq_true, if_false] at e1 e2
  obtain ⟨q1, q2⟩ := ho.out (l1 := [_]) (l2 := [_])
  have hx1 := hxx.mono q1.le
  try simp +contextual -dsimp
  refine s1 _ hh _ x b R r 8 _ hx1 hb hr (by omega) q2 fun h3 ho3 => ?_
  have l3 := rNum_le (k := 8) hr
  try simp +contextual -dsimp
  refine s1 _ _ _ x b R _ 8 _ hx1 hb l3 (by omega) ho3 fun h4 ho4 => ?_
  have l4 := rNum_le (k := 8) l3
  try simp +contextual -dsimp
  refine s1 _ _ _ x b R _ 8 _ hx1 hb l4 (by omega) ho4 fun h5 ho5 => ?_
  have ho6 := q1.join ho5
  try simp +contextual -dsimp
  refine ho6.push 0 rfl rfl (by omega) (by simp; omega) (by simp [maxLen]; omega) fun o' h7 ho7 _ => ?_
  have e4 : IntKind.i64.wrap (((t + 1 : Nat) : Int) - 1) = (t : Int) := by rw [wrap_i64 (by omega) (by omega)]; omega
  have hco := (ho7.slAt 0 rfl).isCell
  simp -dsimp only [B.al_agg, V.setF_agg, V.put1_cell, hco, cond_true, List.length_set, List.length_cons, List.length_nil, List.set, optAgg_some, B.pv_some, if_true, show 6 < 0 + 1 + 1 + 1 + 1 + 1 + 1 + 1 by omega, V.bin_sub, e4]
  refine hY t _ _ (by omega) ⟨o', acc ++ [(rUse b r).1], (rUse b r).2, rfl, by omega, by simp; omega, rUse_le hr, ?_, e2, ?_⟩
  ·rw [← e1, List.append_assoc]; rfl
  ·rw [List.map_append]; exact ho7
 ·have : (rList (rUse b) t r) = ([], r) := by
   cases t with
   | zero => rfl
   | succ t => simp [rList, h2 (by omega)]
  rw [this, List.append_nil] at e1
  rw [this] at e2
  subst e1
  rw [← e2] at hk
  exact hk _ _ ho
theorem ref14_Get.lots (s1 : ref13_Reader_Number.Spec C N) (s2 : ref14_lot.Spec C N) {b : List UInt8} {x : AVal} {i2 : Nat} {p : AVal} {bs hh : AHeap} {Q : AVal → AHeap → Prop} {e i d : Int} {c : List UInt8} {s : UInt8} {z : Nat} {r1 : Rdr} (hx : ReadsAt bs x b) (hz : z ≤ 65535) (hr1 : r1.at_ ≤ b.length)
  (ho : Owns bs hh [.box p [x, .int .i64 (r1.at_ : Int), .bool r1.bad]])
  (hk : ∀ o h', Owns bs h' [.sl 6 o ((rList (rLot b) z r1).1.map Lot.cs) [], .box p [x, .int .i64 ((rList (rLot b) z r1).2.at_ : Int), .bool (rList (rLot b) z r1).2.bad]] →
   C (N 71) [p, .int .i64 2] h' fun v54 h => LoopR (ref14_Get.l3 C N Q (.ptr i2 0 0) p) [v54, .agg [.int .i64 e, .int .i64 i, .int .i64 d, .str c, .int .u8 (s.toNat : Int), o, .nils]] h) :
  LoopR (ref14_Get.l5 C N Q (.ptr i2 0 0) p) [.int .i64 (z : Int), .agg [.int .i64 e, .int .i64 i, .int .i64 d, .str c, .int .u8 (s.toNat : Int), .nils, .nils]] hh := by
 obtain ⟨⟨R, hxx⟩, hb⟩ := hx
 refine LoopR.intro (fun t vs hh => ∃ (o : AVal) (acc : List Lot) (r : Rdr), vs = [.int .i64 (t : Int), .agg [.int .i64 e, .int .i64 i, .int .i64 d, .str c, .int .u8 (s.toNat : Int), o, .nils]] ∧ t ≤ 65535 ∧ acc.length + t ≤ 65535 ∧ r.at_ ≤ b.length ∧ acc ++ (rList (rLot b) t r).1 = (rList (rLot b) z r1).1 ∧ (rList (rLot b) t r).2 = (rList (rLot b) z r1).2 ∧
   Owns bs hh [.sl 6 o (acc.map Lot.cs) [], .box p [x, .int .i64 (r.at_ : Int), .bool r.bad]]) z ?_ ⟨.nils, [], r1, rfl, by omega, by simp; omega, hr1, rfl, rfl, (ho.nils 6).perm (List.Perm.swap ..)⟩
 rintro Y t vs hh ⟨o, acc, r, rfl, ht, hal, hr, e1, e2, ho⟩ hY
 obtain ⟨id, rfl, hbx⟩ := ho.boxAt 1 rfl
 simp +contextual -dsimp [ldv_at hbx]
 refine B.cond_bool (fun h2 => ?_) (fun h2 => ?_) <;> simp at h2
 ·obtain ⟨t, rfl⟩ : ∃ u, t = u + 1 := ⟨t - 1, by omega⟩
  simp only [rList, h2.2, Bool.false_eq_true, if_false] at e1 e2
  obtain ⟨q1, q2⟩ := ho.out (l1 := [_]) (l2 := [_])
  have hx1 := hxx.mono q1.le
  try simp +contextual -dsimp
  refine s2 _ hh _ x b R r _ hx1 hb hr q2 fun h5 ho5 => ?_
  have ho6 := q1.join ho5
  try simp +contextual -dsimp
  refine ho6.push 0 rfl rfl (by omega) (by simp; omega) (by simp [maxLen]; omega) fun o' h7 ho7 _ => ?_
  have e4 : IntKind.i64.wrap (((t + 1 : Nat) : Int) - 1) = (t : Int) := by rw [wrap_i64 (by omega) (by omega)]; omega
  have hco := (ho7.slAt 0 rfl).isCell
  simp -dsimp only [B.al_agg, V.setF_agg, V.put1_cell, hco, cond_true, List.length_set, List.length_cons, List.length_nil, List.set, optAgg_some, B.pv_some, if_true, show 5 < 0 + 1 + 1 + 1 + 1 + 1 + 1 + 1 by omega, V.bin_sub, e4]
  refine hY t _ _ (by omega) ⟨o', acc ++ [(rLot b r).1], (rLot b r).2, rfl, by omega, by simp; omega, rLot_le hr, ?_, e2, ?_⟩
  ·rw [← e1, List.append_assoc]; rfl
  ·rw [List.map_append]; exact ho7
 ·have : (rList (rLot b) t r) = ([], r) := by
   cases t with
   | zero => rfl
   | succ t => simp [rList, h2 (by omega)]
  rw [this, List.append_nil] at e1
  rw [this] at e2
  subst e1
  rw [← e2] at hk
  exact hk _ _ ho
end Go.Ab
set_option maxRecDepth 100000
namespace Go.Ab
variable {C : CSem} {N : Nat → Nat}
def two {α : Type} (a b : α) : Nat → α := fun j => if j = 0 then a else b
end Go.Ab
namespace Go.Ab
variable {C : CSem} {N : Nat → Nat}
theorem litP {h : AHeap} {es n : Nat} {cs : List AVal} (L : List (List AVal)) {K : Nat → AHeap → Prop} (hc : cs = L.flatten) (hL : ∀ p ∈ L, p.length = es) (hn : n = L.length) (hK : ∀ i h', Owns h h' [.sl es (.sl i 0 0 n es n) L []] → K i h') : B.newO h (some cs) K :=
 fun i hi => hK i _ ((Owns.start h).newSl hi (by simpa using hL) hn (by simp; omega) (by simpa using hc))
section
variable {h : AHeap} {v : AVal} {R : List (List AVal)} {j : Nat}
end
section
variable {h0 h : AHeap} {vi vd vq vt : AVal} {Q : AVal → AHeap → Prop} {Y5 : List AVal → AHeap → Prop}
end
end Go.Ab
namespace Go.Ab
variable {C : CSem} {N : Nat → Nat}
def NoOwn (h : AHeap) (y : AVal) : Prop := ∀ id b, foot y = some id → h id = some b → b.own = false
def footL (y : AVal) : List Nat := match foot y with
 | some id => [id]
 | none => []
theorem footL_mem {y : AVal} {i : Nat} : memB (footL y) i = true ↔ foot y = some i := by
 unfold footL
 cases foot y with
 | none => exact ⟨fun h => (by cases h), fun h => (by cases h)⟩
 | some id =>
  have e : memB [id] i = Nat.beq id i := by
   show (bif Nat.beq id i then true else false) = _
   cases Nat.beq id i <;> rfl
  show memB [id] i = true ↔ _
  rw [e, Option.some.injEq]
  exact ⟨Nat.eq_of_beq_eq_true, fun h => by rw [h]; exact Nat.beq_refl i⟩
theorem noOwn_disown (h : AHeap) (y : AVal) : NoOwn (disown h (footL y)) y := fun id b hf hb => by
 rw [disown_on (footL_mem.2 hf)] at hb
 cases e : h id with
 | none => rw [e] at hb; cases hb
 | some c => rw [e] at hb; cases hb; rfl
theorem NoOwn.mono {h h' : AHeap} {y : AVal} (hn : NoOwn h y) {es : Nat} {L R : List (List AVal)} (hy : SlX h es y L R) (hle : h.le h') : NoOwn h' y := fun id b hf hb => by
 obtain ⟨c, hc⟩ := hy.known hf
 rw [hle id c hc] at hb
 cases hb
 exact hn id b hf hc
theorem CDis.call (hD : CDis C) {f : Nat} {args : List AVal} {h : AHeap} {K : AVal → AHeap → Prop} (y : AVal) {es : Nat} {L R : List (List AVal)} (hy : SlX h es y L R) (x : C f args (disown h (footL y)) K) : C f args h K :=
 hD f args h (footL y) K (fun i hi => hy.known (footL_mem.1 hi)) x
theorem le_disown {h0 h : AHeap} {y : AVal} (hle : h0.le h) (hn : ∀ id, foot y = some id → h0 id = none) : h0.le (disown h (footL y)) := fun i b hb => by
 cases hm : memB (footL y) i with
 | true => rw [hn i (footL_mem.1 hm)] at hb; cases hb
 | false => rw [disown_off hm]; exact hle i b hb
def small6 (L : List Lot) (W : List Want) (M : List Part) (a b : Int) : Bool := decide (L.length ≤ 12) && decide (W.length ≤ 20) && decide (M.length ≤ 6) && (decide (min b 4001 < max a 0) || decide (min b 4001 - max a 0 ≤ 60))
def law06_small.Spec (C : CSem) (N : Nat → Nat) : Prop := ∀ (x y z : AVal) (L : List Lot) (W : List Want) (M : List Part) (R S T : List (List AVal)) (a b : Int) (h : AHeap) (Q : AVal → AHeap → Prop), SlX h 6 x (L.map Lot.cs) R → SlX h 3 y (W.map Want.cs) S → SlX h 2 z (M.map Part.cs) T →
 Q (.bool (small6 L W M a b)) h → C (N 318) [x, y, z, .int .i64 a, .int .i64 b] h Q
theorem law06_small.spec (i : law06_small.Imp C N) : law06_small.Spec C N := by
 intro x y z L W M R S T a b h Q hx hy hz hq
 apply i
 have e1 := hx.lenSl
 have e2 := hy.lenSl
 have e3 := hz.lenSl
 rw [List.length_map] at e1 e2 e3
 have n1 : decide ((L.length : Int) ≤ 12) = decide (L.length ≤ 12) := by rw [decide_eq_decide]; omega
 have n2 : decide ((W.length : Int) ≤ 20) = decide (W.length ≤ 20) := by rw [decide_eq_decide]; omega
 have n3 : decide ((M.length : Int) ≤ 6) = decide (M.length ≤ 6) := by rw [decide_eq_decide]; omega
 unfold small6 at hq
 simp -dsimp only [law06_small.cps, law06_small.k1, e1, V.bin_leq, n1, B.pv_some]
 by_cases c1 : L.length ≤ 12
 ·by_cases c2 : W.length ≤ 20
  ·by_cases c3 : M.length ≤ 6
   ·by_cases c4 : min b 4001 < max a 0
    ·simp -dsimp [c1, c2, c3, c4, e2, e3, n2, n3, V.min2_int, V.max2_int]
     refine dn_same ?_
     simpa [c1, c2, c3, c4] using hq
    ·have ew : V.bin .sub (.int .i64 (min b 4001)) (.int .i64 (max a 0)) = some (.int .i64 (min b 4001 - max a 0)) := by rw [V.bin_sub, wrap_i64 (by omega) (by omega)]
     simp -dsimp [c1, c2, c3, c4, e2, e3, n2, n3, V.min2_int, V.max2_int, ew]
     refine dn_same ?_
     simpa [c1, c2, c3, c4] using hq
   ·simp -dsimp [c1, c2, c3, e2, e3, n2, n3]
    refine dn_same ?_
    simpa [c1, c2, c3] using hq
  ·simp -dsimp [c1, c2, e2, e3, n2, n3]
   refine dn_same ?_
   simpa [c1, c2] using hq
 ·simp -dsimp [c1, e2, e3, n2, n3]
  refine dn_same ?_
  simpa [c1] using hq
def law06_lots.Spec (C : CSem) (N : Nat → Nat) : Prop := ∀ (h : AHeap) (Q : AVal → AHeap → Prop), (∀ x h', Owns h h' [.sl 6 x (([⟨1, [65], 0, 5, 3, false⟩, ⟨2, [65], 7, 9, 4, false⟩] : List Lot).map Lot.cs) []] → Q x h') → C (N 329) [] h Q
theorem law06_lots.spec (i : law06_lots.Imp C N) : law06_lots.Spec C N := by
 intro h Q hq
 apply i
 simp -dsimp [A.bld, repL]
 refine litP (es := 6) (n := 2) (([⟨1, [65], 0, 5, 3, false⟩, ⟨2, [65], 7, 9, 4, false⟩] : List Lot).map Lot.cs) rfl (by simp) rfl fun i1 h1 o1 => dn_same (hq _ _ o1)
end Go.Ab
namespace Go.Ab
variable {C : CSem} {N : Nat → Nat}
def aw6L : List Lot := [⟨1, [65], 0, 5, 3, false⟩, ⟨2, [65], 7, 9, 4, false⟩]
def aw6W : List Want := [⟨[65], 2, 2⟩]
theorem aw6_1 : dayOf aw6L aw6W [⟨[65], 1⟩] 1 20 = (1, true) := by decide +kernel
theorem aw6_2 : dayOf aw6L aw6W [⟨[65], 2⟩] 1 20 = (7, true) := by decide +kernel
theorem aw6_3 : dayOf aw6L aw6W [⟨[65], 5⟩] 1 20 = (0, false) := by decide +kernel
theorem aw6_4 : (okSpans aw6L aw6W [⟨[65], 2⟩] (spanL 1 20 aw6L)).map (fun w => (w.From, w.Until)) = [(7, 9)] := by decide +kernel
theorem aw6_5 : rows (okSpans aw6L aw6W [⟨[65], 2⟩] (spanL 1 20 aw6L)) = [⟨7, 9⟩] := by
 have e : okSpans aw6L aw6W [⟨[65], 2⟩] (spanL 1 20 aw6L) = [⟨7, 9⟩] := by
  have h := aw6_4
  match hm : okSpans aw6L aw6W [⟨[65], 2⟩] (spanL 1 20 aw6L), h with
  | [⟨a, b⟩], h => simp at h; rw [h.1, h.2]
 rw [e, rows_eq]
 unfold rrows
 rw [if_pos (by decide), ofTo_span (a := 7) (b := 9) 4001 fun d hd => ?_]
 ·rfl
 ·simp [cov]; omega
def law06_awake.Spec (C : CSem) (N : Nat → Nat) : Prop := ∀ (h : AHeap) (Q : AVal → AHeap → Prop), Q (.bool true) h → C (N 317) [] h Q
theorem law06_awake.spec (i : law06_awake.Imp C N) (hD : CDis C) (s1 : law06_lots.Spec C N) (s2 : least_Day.Spec C N) (s3 : least_Days.Spec C N) : law06_awake.Spec C N := by
 intro h Q hq
 apply i
 simp -dsimp [A.bld, repL]
 refine litP (es := 3) (n := 1) (aw6W.map Want.cs) rfl (by simp [aw6W]) rfl fun i1 h1 o1 => ?_
 refine s1 _ _ fun x1 h2 o2 => ?_
 simp -dsimp [A.bld, repL]
 refine litP (es := 2) (n := 1) (([⟨[65], 1⟩] : List Part).map Part.cs) rfl (by simp) rfl fun i3 h3 o3 => ?_
 have ly3 := (o1.slAt 0 rfl).mono (AHeap.le_trans o2.le o3.le)
 refine hD.call (.sl i1 0 0 1 3 1) ly3 ?_
 have d1 := (AHeap.le_trans o1.le (AHeap.le_trans o2.le o3.le))
 have h3le : h.le (disown h3 (footL (.sl i1 0 0 1 3 1))) := le_disown d1 fun id hf => (o1.own _ (List.mem_singleton_self _) id hf).1
 have hn := noOwn_disown h3 (.sl i1 0 0 1 3 1)
 have ly := ly3.disown (footL (.sl i1 0 0 1 3 1))
 refine s2 _ _ _ aw6L aw6W [⟨[65], 1⟩] [] [] [] 1 20 _ _ (((o2.slAt 0 rfl).mono o3.le).disown _) ly ((o3.slAt 0 rfl).disown _) hn (by decide) (by decide) ?_
 generalize disown h3 (footL (.sl i1 0 0 1 3 1)) = g3 at h3le hn ly
 rw [aw6_1]
 simp -dsimp [A.bld, repL]
 refine s1 _ _ fun x4 h4 o4 => ?_
 simp -dsimp [A.bld, repL]
 refine litP (es := 2) (n := 1) (([⟨[65], 2⟩] : List Part).map Part.cs) rfl (by simp) rfl fun i5 h5 o5 => ?_
 have le5 := AHeap.le_trans o4.le o5.le
 refine s2 _ _ _ aw6L aw6W [⟨[65], 2⟩] [] [] [] 1 20 _ _ ((o4.slAt 0 rfl).mono o5.le) (ly.mono le5) (o5.slAt 0 rfl) (hn.mono ly le5) (by decide) (by decide) ?_
 rw [aw6_2]
 simp -dsimp [A.bld, repL]
 refine s1 _ _ fun x6 h6 o6 => ?_
 simp -dsimp [A.bld, repL]
 refine litP (es := 2) (n := 1) (([⟨[65], 5⟩] : List Part).map Part.cs) rfl (by simp) rfl fun i7 h7 o7 => ?_
 have le7 := AHeap.le_trans le5 (AHeap.le_trans o6.le o7.le)
 refine s2 _ _ _ aw6L aw6W [⟨[65], 5⟩] [] [] [] 1 20 _ _ ((o6.slAt 0 rfl).mono o7.le) (ly.mono le7) (o7.slAt 0 rfl) (hn.mono ly le7) (by decide) (by decide) ?_
 rw [aw6_3]
 simp -dsimp [A.bld, repL]
 refine s1 _ _ fun x8 h8 o8 => ?_
 simp -dsimp [A.bld, repL]
 refine litP (es := 2) (n := 1) (([⟨[65], 2⟩] : List Part).map Part.cs) rfl (by simp) rfl fun i9 h9 o9 => ?_
 have le9 := AHeap.le_trans le7 (AHeap.le_trans o8.le o9.le)
 refine s3 _ _ _ aw6L aw6W [⟨[65], 2⟩] [] [] [] 1 20 _ _ ((o8.slAt 0 rfl).mono o9.le) (ly.mono le9) (o9.slAt 0 rfl) (hn.mono ly le9) (by decide) (by decide) fun v h10 o10 => ?_
 rw [aw6_5] at o10
 have a := o10.slAt 0 rfl
 have i0 : V.idxS 2 v (.int .i64 0) = some (elp 2 v 0 0) := a.idxN (i := 0) (by simp)
 have d0 := a.elem (i := 0) (c := Window.cs ⟨7, 9⟩) rfl
 simp -dsimp [a.lenSl, i0, d0, A.bld, repL, V.binAgg]
 exact dn_le (AHeap.le_trans h3le (AHeap.le_trans le9 o10.le)) hq
end Go.Ab
namespace Go.Ab
variable {C : CSem} {N : Nat → Nat}
theorem small6_facts {L : List Lot} {W : List Want} {M : List Part} {a b : Int} (h : small6 L W M a b = true) : L.length ≤ 12 ∧ W.length ≤ 20 ∧ M.length ≤ 6 := by
 simp only [small6, Bool.and_eq_true, decide_eq_true_eq] at h
 exact ⟨h.1.1.1, h.1.1.2, h.1.2⟩
end Go.Ab
namespace Go.Ab
variable {C : CSem} {N : Nat → Nat}
def law06_with.Spec (C : CSem) (N : Nat → Nat) : Prop := ∀ (y z : AVal) (W : List Want) (M : List Part) (S T : List (List AVal)) (d : Int) (h : AHeap) (Q : AVal → AHeap → Prop), SlX h 3 y (W.map Want.cs) S → SlX h 2 z (M.map Part.cs) T → W.length + M.length ≤ 100000000 →
 (∀ x h', Owns h h' [.sl 3 x ((wantsOn W M d).map Want.cs) []] → Q x h') → C (N 326) [y, z, .int .i64 d] h Q
theorem law06_with.spec (i : law06_with.Imp C N) : law06_with.Spec C N := by
 intro y z W M S T d h Q hy hz hl2 hq
 apply i
 have ez := hz.lenSl
 rw [List.length_map] at ez
 simp -dsimp only [law06_with.cps]
 refine ((Owns.start h).sz 3).appW 0 rfl hy (by omega) (by simp; omega) (by simp [maxLen]; omega) fun u h1 o1 _ => ?_
 have o1 : Owns h h1 [.sl 3 u ([] ++ W.map Want.cs) []] := o1
 rw [List.nil_append] at o1
 refine LoopR.intro (fun t vs hh => ∃ (k : Nat) (u : AVal), k + t = M.length ∧ vs = [u, .int .i64 (k : Int)] ∧ Owns h hh [.sl 3 u ((wantsOn W (M.take k) d).map Want.cs) []]) M.length ?_ ⟨0, u, by omega, rfl, by simpa [wantsOn] using o1⟩
 rintro Y t vs hh ⟨k, u, hkt, rfl, o⟩ hY
 have hzz := hz.mono o.le
 simp -dsimp only [law06_with.l2, law06_with.k1, ez, lssN, B.pv_some]
 refine B.cond_bool (fun hb => ?_) (fun hb => ?_)
 ·rw [decide_eq_true_eq] at hb
  have hg : (M.map Part.cs)[k]? = some (M[k]).cs := by rw [List.getElem?_map, List.getElem?_eq_getElem hb]; rfl
  have hidx : V.idxS 2 z (.int .i64 (k : Int)) = some (elp 2 z k 0) := hzz.idxN (by simpa using hb)
  have f0 := hzz.fieldA (i := k) (by simpa using hb) 0 0
  have f1 := hzz.fieldA (i := k) (by simpa using hb) 0 1
  have l0 := hzz.ldv (i := k) (f := 0) hg (by omega)
  have l1 := hzz.ldv (i := k) (f := 1) hg (by omega)
  have e2 : (wantsOn W (M.take (k + 1)) d).map Want.cs = (wantsOn W (M.take k) d).map Want.cs ++ [[.str (M[k]).Item, .int .i64 d, .int .i64 (M[k]).Qty]] := by rw [wantsOn_take hb, List.map_append]; rfl
  have hwl : (wantsOn W (M.take k) d).length ≤ W.length + k := by unfold wantsOn; simp; omega
  simp -dsimp [hidx, f0, f1, l0, l1]
  refine o.push (bytes := 32) 0 rfl (cs := [.str (M[k]).Item, .int .i64 d, .int .i64 (M[k]).Qty]) rfl (by omega) (by rw [List.length_map]; omega) (by rw [List.length_map]; simp only [maxLen]; omega) fun u' h2 o2 _ => ?_
  simp -dsimp only [add1 (show k < 4611686018427387904 by omega), B.pv_some]
  exact hY (t - 1) _ _ (by omega) ⟨k + 1, u', by omega, rfl, by rw [e2]; exact o2⟩
 ·rw [decide_eq_false_iff_not] at hb
  have hk : k = M.length := by omega
  subst hk
  rw [List.take_length] at o
  exact dn_same (hq _ _ o)
theorem dayFrom_spec {L : List Lot} {W : List Want} {M : List Part} : ∀ (n : Nat) (d : Int), ((dayFrom L W M d n).2 = true → d ≤ (dayFrom L W M d n).1 ∧ (dayFrom L W M d n).1 < d + (n : Int) ∧ canHad L W M (dayFrom L W M d n).1 = true ∧ ∀ e, d ≤ e → e < (dayFrom L W M d n).1 → canHad L W M e = false) ∧
  ((dayFrom L W M d n).2 = false → ∀ e, d ≤ e → e < d + (n : Int) → canHad L W M e = false)
 | 0, d => ⟨fun h => by simp [dayFrom] at h, fun _ e h1 h2 => by omega⟩
 | n + 1, d => by
  have ih := dayFrom_spec (L := L) (W := W) (M := M) n (d + 1)
  cases hc : canHad L W M d with
  | true =>
   simp only [dayFrom, hc, if_true]
   exact ⟨fun _ => ⟨Int.le_refl _, by omega, trivial, fun e h1 h2 => by omega⟩, fun h => by cases h⟩
  | false =>
   simp only [dayFrom, hc, Bool.false_eq_true, if_false]
   refine ⟨fun h => ?_, fun h e h1 h2 => ?_⟩
   ·obtain ⟨a, b, c, f⟩ := ih.1 h
    refine ⟨by omega, by omega, c, fun e h1 h2 => ?_⟩
    by_cases e1 : e = d
    ·subst e1; exact hc
    ·exact f e (by omega) h2
   ·by_cases e1 : e = d
    ·subst e1; exact hc
    ·exact ih.2 h e (by omega) (by omega)
theorem dayOf_first {L : List Lot} {W : List Want} {M : List Part} {a b : Int} (ha : 0 ≤ a) (ha2 : a ≤ 4000) : ((dayOf L W M a b).2 = true → a ≤ (dayOf L W M a b).1 ∧ (dayOf L W M a b).1 ≤ min b 4000 ∧ canHad L W M (dayOf L W M a b).1 = true ∧ (∀ e, a ≤ e → e < (dayOf L W M a b).1 → canHad L W M e = false) ∧ ((dayOf L W M a b).1 = a ∨ ∃ l ∈ L, l.From = (dayOf L W M a b).1)) ∧
  ((dayOf L W M a b).2 = false → ∀ e, a ≤ e → e ≤ min b 4000 → canHad L W M e = false) := by
 have e := dayOf_eq L W M a b
 have s := dayFrom_spec (L := L) (W := W) (M := M) (min b 4000 - max a 0 + 1).toNat (max a 0)
 rw [← e] at s
 rw [show max a 0 = a by omega] at s
 refine ⟨fun h => ?_, fun h d h1 h2 => s.2 h d h1 (by omega)⟩
 obtain ⟨s1, s2, s3, s4⟩ := s.1 h
 refine ⟨s1, by omega, s3, s4, ?_⟩
 by_cases hd : (dayOf L W M a b).1 = a
 ·exact .inl hd
 ·right
  refine Classical.byContradiction fun hno => ?_
  have := canHad_back (by omega) (by omega) (fun l hl he => hno ⟨l, hl, he⟩) s3
  rw [s4 _ (by omega) (by omega)] at this
  cases this
def law06_LeastFirst.Spec (C : CSem) (N : Nat → Nat) : Prop := ∀ (x y z : AVal) (L : List Lot) (W : List Want) (M : List Part) (R S T : List (List AVal)) (a b : Int) (h : AHeap) (Q : AVal → AHeap → Prop), SlX h 6 x (L.map Lot.cs) R → SlX h 3 y (W.map Want.cs) S → SlX h 2 z (M.map Part.cs) T →
 NoOwn h y → -9223372036854775808 ≤ b → Q (.bool true) h → C (N 327) [x, y, z, .int .i64 a, .int .i64 b] h Q
theorem law06_LeastFirst.spec (i : law06_LeastFirst.Imp C N) (s0 : law06_awake.Spec C N) (s1 : law06_small.Spec C N) (s2 : least_Day.Spec C N) (s3 : law06_with.Spec C N) (s4 : flow_Fits.Spec C N) : law06_LeastFirst.Spec C N := by
 intro x y z L W M R S T a b h Q hx hy hz hn hbm hq
 apply i
 simp -dsimp only [law06_LeastFirst.cps]
 refine s0 _ _ ?_
 simp -dsimp only [V.un_not, Bool.not_true, B.cond_false, B.pv_some, law06_LeastFirst.k9]
 refine s1 _ _ _ _ _ _ _ _ _ _ _ _ _ hx hy hz ?_
 simp +contextual -dsimp [V.bin_lss, V.bin_gtr, -law06_LeastFirst.k8]
 refine B.cond_bool (fun hb => dn_same hq) (fun hb => ?_)
 have hb' : (small6 L W M a b = true ∧ 0 ≤ a) ∧ a ≤ 4000 := by simpa using hb
 obtain ⟨⟨hs, ha⟩, ha2⟩ := hb'
 obtain ⟨n1, n2, n3⟩ := small6_facts hs
 simp -dsimp only [law06_LeastFirst.k8]
 refine s2 _ _ _ L W M _ _ _ a b _ _ hx hy hz hn (by omega) (by omega) ?_
 simp -dsimp only [V.ext_tup, List.getElem?_cons_zero, List.getElem?_cons_succ, B.pv_some, law06_LeastFirst.k7, V.un_not]
 obtain ⟨f1, f2⟩ := dayOf_first (L := L) (W := W) (M := M) (b := b) ha ha2
 generalize hD : dayOf L W M a b = D at f1 f2 ⊢
 obtain ⟨day, ok⟩ := D
 simp only at f1 f2 ⊢
 have loop : ∀ (top : Int) (ok : Bool), top ≤ 4001 → (∀ e, a ≤ e → e < top → canHad L W M e = false) → (∀ hh : AHeap, h.le hh → law06_LeastFirst.k4 C N (dn Q) x y z (.int .i64 a) (.int .i64 b) (.int .i64 top) (.bool ok) hh) →
   LoopR (law06_LeastFirst.l6 C N (dn Q) x y z (.int .i64 a) (.int .i64 b) (.int .i64 top) (.bool ok)) [.int .i64 a] h := fun top ok ht hno hk => by
  refine LoopR.intro (fun t vs hh => ∃ d : Int, t = (top - d).toNat ∧ vs = [.int .i64 d] ∧ a ≤ d ∧ h.le hh) _ ?_ ⟨a, rfl, rfl, Int.le_refl _, AHeap.le_refl _⟩
  rintro Y t vs hh ⟨d, rfl, rfl, had, hle⟩ hY
  simp -dsimp only [law06_LeastFirst.l6, law06_LeastFirst.k5, V.bin_lss, B.pv_some]
  refine B.cond_bool (fun hb => ?_) (fun hb => ?_)
  ·rw [decide_eq_true_eq] at hb
   refine s3 _ _ W M _ _ d _ _ (hy.mono hle) (hz.mono hle) (by omega) fun u h2 o2 => ?_
   refine s4 _ _ L (wantsOn W M d) _ _ _ _ (hx.mono (AHeap.le_trans hle o2.le)) (o2.slAt 0 rfl) (by omega) (by rw [wantsOn_len]; omega) ?_
   rw [show (greedy L (wantsOn W M d)).isSome = false from hno d had hb]
   have e1 : V.bin .add (.int .i64 d) (.int .i64 1) = some (.int .i64 (d + 1)) := by rw [V.bin_add, wrap_i64 (by omega) (by omega)]
   simp -dsimp only [B.cond_false, e1, B.pv_some]
   exact hY _ _ _ (by omega) ⟨d + 1, rfl, rfl, by omega, AHeap.le_trans hle o2.le⟩
  ·exact hk hh hle
 cases ok with
 | false =>
  have ew : V.bin .add (.int .i64 (min b 4000)) (.int .i64 1) = some (.int .i64 (min b 4000 + 1)) := by rw [V.bin_add, wrap_i64 (by omega) (by omega)]
  simp -dsimp only [Bool.not_false, B.cond_true, V.min2_int, ew, B.pv_some]
  refine loop _ _ (by omega) (fun e h1 h2 => f2 rfl e h1 (by omega)) fun hh hle => ?_
  simp -dsimp [law06_LeastFirst.k4]
  exact dn_le hle hq
 | true =>
  obtain ⟨g1, g2, g3, g4, g5⟩ := f1 rfl
  simp -dsimp only [Bool.not_true, B.cond_false]
  refine loop _ _ (by omega) (fun e h1 h2 => g4 e h1 h2) fun hh hle => ?_
  simp -dsimp only [law06_LeastFirst.k4, V.un_not, Bool.not_true, B.cond_false, V.bin_eql, B.pv_some]
  have ex := hx.lenSl
  rw [List.length_map] at ex
  have hxx := hx.mono hle
  refine LoopR.intro (fun t vs h2 => h2 = hh ∧ ∃ (k : Nat) (g : Bool), k + t = L.length ∧ vs = [.bool g, .int .i64 (k : Int)] ∧ (g = true ↔ (day = a ∨ ∃ l ∈ L.take k, l.From = day))) L.length ?_ ⟨rfl, 0, decide (day = a), by omega, rfl, by simp⟩
  rintro Y t vs h2 ⟨rfl, k, g, hkt, rfl, hg⟩ hY
  simp -dsimp only [law06_LeastFirst.l3, law06_LeastFirst.k2, ex, lssN, B.pv_some]
  refine B.cond_bool (fun hb => ?_) (fun hb => ?_)
  ·rw [decide_eq_true_eq] at hb
   have hgk : (L.map Lot.cs)[k]? = some (L[k]).cs := by rw [List.getElem?_map, List.getElem?_eq_getElem hb]; rfl
   have hidx : V.idxS 6 x (.int .i64 (k : Int)) = some (elp 6 x k 0) := hxx.idxN (by simpa using hb)
   have f2' := hxx.fieldA (i := k) (by simpa using hb) 0 2
   have f0' := hxx.fieldA (i := k) (by simpa using hb) 2 0
   have l2' := hxx.ldv (i := k) (f := 2) hgk (by omega)
   have tk : L.take (k + 1) = L.take k ++ [L[k]] := by rw [List.take_add_one, List.getElem?_eq_getElem hb]; rfl
   have step : ∀ g', (g' = true ↔ (g = true ∨ L[k].From = day)) → Y [.bool g', .int .i64 ((k + 1 : Nat) : Int)] h2 := fun g' hg' => hY (t - 1) _ _ (by omega) ⟨rfl, k + 1, g', by omega, rfl, by
    rw [hg', hg, tk]
    simp only [List.mem_append, List.mem_singleton]
    constructor
    ·rintro ((h | ⟨l, hl, e⟩) | e)
     ·exact .inl h
     ·exact .inr ⟨l, .inl hl, e⟩
     ·exact .inr ⟨_, .inr rfl, e⟩
    ·rintro (h | ⟨l, hl | rfl, e⟩)
     ·exact .inl (.inl h)
     ·exact .inl (.inr ⟨l, hl, e⟩)
     ·exact .inr e⟩
   cases g with
   | true =>
    simp -dsimp [add1 (show k < 4611686018427387904 by omega)]
    exact step true (by simp)
   | false =>
    simp at f2' f0' l2'
    simp -dsimp [hidx, f2', f0', l2', add1 (show k < 4611686018427387904 by omega)]
    exact step _ (by simp)
  ·rw [decide_eq_false_iff_not] at hb
   have hk : k = L.length := by omega
   subst hk
   rw [List.take_length] at hg
   have : g = true := hg.2 g5
   subst this
   have hdb : day ≤ b := Int.le_trans g2 (Int.min_le_left ..)
   simp -dsimp [hdb]
   refine s3 _ _ W M _ _ day _ _ (hy.mono hle) (hz.mono hle) (by omega) fun u h3 o3 => ?_
   simp -dsimp
   refine s4 _ _ L (wantsOn W M day) _ _ _ _ (hxx.mono o3.le) (o3.slAt 0 rfl) (by omega) (by rw [wantsOn_len]; omega) ?_
   rw [show (greedy L (wantsOn W M day)).isSome = true from g3]
   simp -dsimp
   exact dn_le (AHeap.le_trans hle o3.le) hq
end Go.Ab
namespace Go.Ab
theorem dWants {H : AHeap} {v : AVal} (h : AbsOk H (.sl 32 3 tyWant) [v]) : ∃ L : List Want, SlIs H 3 v (L.map Want.cs) ∧ L.length < 4611686018427387904 := by
 obtain ⟨L, h1, h2⟩ := arg_slice Want.cs (fun p hp => dWant hp) h
 exact ⟨L, h1, by unfold reach at h2; omega⟩
end Go.Ab
namespace Go.Ab
theorem dParts {H : AHeap} {v : AVal} (h : AbsOk H (.sl 24 2 tyPart) [v]) : ∃ L : List Part, SlIs H 2 v (L.map Part.cs) ∧ L.length < 4611686018427387904 := by
 obtain ⟨L, h1, h2⟩ := arg_slice Part.cs (fun p hp => dPart hp) h
 exact ⟨L, h1, by unfold reach at h2; omega⟩
end Go.Ab
