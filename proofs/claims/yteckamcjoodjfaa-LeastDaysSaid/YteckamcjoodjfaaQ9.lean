/- What is proved: a part of the way to the statement: Cflow3, Cflow3b, Cflow4, Cleast, Crank3, Ckit2, Ckit3, Ckit4, Ckit5, Rlaw09, Claw09, Cleast2, Cleast3, Cleast4, Cleast5, Cleast6, Cleast7, Pflow2, Pflow3, Cflow5, Cref05, Cref05b, Cref05c, Pflow4, Cref05d, Cref06, Pflow5, C01e, P01, P01b, Rlaw01, C01f, C01g, C01h, Pleast, P04, Claw04c, Ctell4, Rlaw14, Claw14, Claw04z, Claw04y, Claw06, Claw06b, Claw06c, Claw06d, Rlaw05, Claw05, Claw05b, Claw05c, Claw06e, AcR3, AcR4. No conditions. -/
import Derived.Test.YteckamcjoodjfaaQ8
import Derived.Test.YteckamcjoodjfaaQ6
import Derived.Test.YteckamcjoodjfaaQ3
set_option linter.unusedVariables false
set_option linter.unusedSimpArgs false
namespace Go.Ab
variable {C : CSem} {N : Nat → Nat}
abbrev Gp := List UInt8 × AVal × List Lot
def gOb (g : Gp) : Ob := .sl 6 g.2.1 (g.2.2.map Lot.cs) []
abbrev kI (n : Int) : AVal := .int .i64 n
abbrev kS (s : List UInt8) : AVal := .str s
abbrev vI (n : Int) : AVal := .int .i64 n
abbrev vA (x : AVal) : AVal := x
theorem lotQty (l : Lot) : V.zbu 4 (.agg l.cs) = some (.int .i64 l.Qty) := by simp
theorem lotItem (l : Lot) : V.zbu 1 (.agg l.cs) = some (.str l.Item) := by simp
theorem lotDays (l : Lot) : V.zen 2 2 (.agg l.cs) = some (.agg [.int .i64 l.From, .int .i64 l.zel]) := by simp
theorem setWant (w : Want) : V.setN 0 3 (.agg w.cs) (.agg [.str [], .int .i64 0, .int .i64 0]) = some (.agg w.cs) := by simp
theorem wantQty (w : Want) : V.zbu 2 (.agg w.cs) = some (.int .i64 w.Qty) := by simp
theorem wantItem (w : Want) : V.zbu 0 (.agg w.cs) = some (.str w.Item) := by simp
theorem wantDay (w : Want) : V.zbu 1 (.agg w.cs) = some (.int .i64 w.Day) := by simp
theorem fillLot1 (a : Lot) : zfu [(0, some 6, .agg a.cs)] (repL 1 [.int .i64 0, .str [], .int .i64 0, .int .i64 0, .int .i64 0, .bool false]) = some a.cs := by simp [repL]
theorem fillUse1 (a : Use) : zfu [(0, some 3, .agg a.cs)] (repL 1 [.int .i64 0, .int .i64 0, .int .i64 0]) = some a.cs := by simp [repL]
theorem bldUse (a b c : Int) : A.bld [(0, none, .int .i64 a), (1, none, .int .i64 b), (2, none, .int .i64 c)] [.int .i64 0, .int .i64 0, .int .i64 0] = some (.agg (Use.cs ⟨a, b, c⟩)) := by simp [A.bld]
structure zqh (S : List Lot) (k : Nat) (psI : Ents (List UInt8) AVal) (G : List Gp) : Prop where
 get : ∀ s, getP psI s = (G.find? fun g => decide (g.1 = s)).map (·.2.1)
 nd : (G.map (·.1)).Nodup
 lots : ∀ g ∈ G, g.2.2 = (S.take k).filter fun l => decide (l.Item = g.1)
 none_ : ∀ s, s ∉ G.map (·.1) → ((S.take k).filter fun l => decide (l.Item = s)) = []
theorem find_set {G : List Gp} (hn : (G.map (·.1)).Nodup) {j : Nat} {g g' : Gp} (hj : G[j]? = some g) (he : g'.1 = g.1) (s : List UInt8) : ((G.set j g').find? fun g => decide (g.1 = s)) = if s = g.1 then some g' else G.find? fun g => decide (g.1 = s) := by
 induction G generalizing j with
 | nil => simp at hj
 | cons a G ih =>
  simp only [List.map_cons, List.nodup_cons] at hn
  cases j with
  | zero =>
   simp at hj; subst hj
   simp only [List.set_cons_zero, List.find?_cons, he]
   by_cases e : s = a.1
   ·subst e; simp
   ·simp [e, Ne.symm e]
  | succ j =>
   simp at hj
   simp only [List.set_cons_succ, List.find?_cons]
   have hne : a.1 ≠ g.1 := fun e => hn.1 (by rw [e]; exact List.mem_map_of_mem (List.mem_of_getElem? hj))
   rw [ih hn.2 hj]
   by_cases e : a.1 = s
   ·subst e; simp [hne]
   ·simp [e]
theorem find_at {G : List Gp} (hn : (G.map (·.1)).Nodup) {j : Nat} {g : Gp} (hj : G[j]? = some g) : (G.find? fun x => decide (x.1 = g.1)) = some g := by
 have := find_set hn hj (g' := g) rfl g.1
 rw [if_pos rfl] at this
 rw [← this]
 congr 1
 apply List.ext_getElem?
 intro i
 rw [List.getElem?_set]
 split
 ·rename_i e; subst e
  split
  ·exact hj
  ·rename_i h; exact absurd (List.getElem?_eq_some_iff.1 hj).1 h
 ·rfl
theorem zqh.old {S : List Lot} {k : Nat} {psI : Ents (List UInt8) AVal} {G : List Gp} (gr : zqh S k psI G) (hk : k < S.length) {j : Nat} {g : Gp} (hj : G[j]? = some g) (he : g.1 = S[k].Item) (x : AVal) (c : Nat) :
  zqh S (k + 1) (putP psI S[k].Item x c) (G.set j (g.1, x, g.2.2 ++ [S[k]])) where
 get s := by
  rw [zl0, find_set gr.nd hj (by rfl)]
  by_cases e : s = S[k].Item
  ·subst e; rw [if_pos rfl, if_pos he.symm]; rfl
  ·rw [if_neg e, if_neg (by rw [he]; exact e)]; exact gr.get s
 nd := by
  have : (G.set j (g.1, x, g.2.2 ++ [S[k]])).map (·.1) = G.map (·.1) := by
   rw [List.map_set]
   apply List.ext_getElem?
   intro i
   rw [List.getElem?_set]
   split
   ·rename_i e; subst e
    have := (List.getElem?_eq_some_iff.1 hj).1
    rw [if_pos (by simpa using this), List.getElem?_map, hj]; rfl
   ·rfl
  rw [this]; exact gr.nd
 lots q hq := by
  rw [take_one hk, List.filter_append]
  rcases List.mem_or_eq_of_mem_set hq with hq' | rfl
  ·rw [← gr.lots q hq']
   by_cases e : S[k].Item = q.1
   ·
    obtain ⟨i, hi, e2⟩ := List.getElem_of_mem hq
    rw [List.getElem_set] at e2
    split at e2
    ·rename_i hji
     subst e2
     have : g ∈ G := List.mem_of_getElem? hj
     have hgl := gr.lots g this
     exfalso
     have := gr.lots _ hq'
     simp only at this
     rw [hgl] at this
     have hl := congrArg List.length this
     simp at hl
    ·rename_i hji
     have hi' : i < G.length := by simpa using hi
     obtain ⟨hj', hjg⟩ := List.getElem?_eq_some_iff.1 hj
     have := zi4 gr.nd (i := j) (j := i) (by simpa using hj') (by simpa using hi') (by simp [hjg, e2, he, e])
     exact absurd this hji
   ·simp [e]
  ·simp only
   rw [gr.lots g (List.mem_of_getElem? hj), he]
   simp
 none_ s hs := by
  have hs' : s ∉ G.map (·.1) := fun hm => hs (by
   obtain ⟨q, hq, rfl⟩ := List.mem_map.1 hm
   obtain ⟨i, hi, rfl⟩ := List.getElem_of_mem hq
   rw [List.mem_map]
   by_cases hij : i = j
   ·subst hij
    rw [List.getElem?_eq_getElem hi] at hj; cases hj
    exact ⟨(G[i].1, x, G[i].2.2 ++ [S[k]]), List.mem_iff_getElem?.2 ⟨i, List.getElem?_set_self hi⟩, rfl⟩
   ·refine ⟨G[i], ?_, rfl⟩
    rw [List.mem_iff_getElem?]
    exact ⟨i, by rw [List.getElem?_set_ne (Ne.symm hij), List.getElem?_eq_getElem hi]⟩)
  rw [take_one hk, List.filter_append, gr.none_ s hs']
  have : ¬ S[k].Item = s := fun e => hs' (by rw [← e, ← he]; exact List.mem_map_of_mem (List.mem_of_getElem? hj))
  simp [this]
theorem zqh.fresh {S : List Lot} {k : Nat} {psI : Ents (List UInt8) AVal} {G : List Gp} (gr : zqh S k psI G) (hk : k < S.length) (he : S[k].Item ∉ G.map (·.1)) (x : AVal) (c : Nat) :
  zqh S (k + 1) (putP psI S[k].Item x c) (G ++ [(S[k].Item, x, [S[k]])]) where
 get s := by
  rw [zl0, List.find?_append]
  by_cases e : s = S[k].Item
  ·subst e
   have : (G.find? fun g => decide (g.1 = S[k].Item)) = none := by
    rw [List.find?_eq_none]; intro g hg; simp; intro e; exact he (by rw [← e]; exact List.mem_map_of_mem hg)
   rw [if_pos rfl, this]; simp
  ·rw [if_neg e, gr.get s]
   simp [Ne.symm e]
 nd := by
  rw [List.map_append, List.nodup_append]
  exact ⟨gr.nd, List.pairwise_singleton _ _, fun a ha b hb e => he (by simp at hb; rw [← hb, ← e]; exact ha)⟩
 lots q hq := by
  rw [take_one hk, List.filter_append]
  rcases List.mem_append.1 hq with hq | hq
  ·have : ¬ S[k].Item = q.1 := fun e => he (by rw [e]; exact List.mem_map_of_mem hq)
   rw [← gr.lots q hq]; simp [this]
  ·rw [List.mem_singleton.1 hq]
   simp only
   rw [gr.none_ _ he]; simp
 none_ s hs := by
  rw [take_one hk, List.filter_append]
  have h1 : s ∉ G.map (·.1) := fun hm => hs (by rw [List.map_append]; exact List.mem_append_left _ hm)
  have h2 : ¬ S[k].Item = s := fun e => hs (by rw [List.map_append]; simp [e])
  rw [gr.none_ s h1]; simp [h2]
theorem zmk {L : List Lot} (h : (L.map Lot.Id).Nodup) : ((zh2 L).map Lot.Id).Nodup := ((zhj L).map Lot.Id).nodup_iff.2 h
def zsf (L : List Lot) (ps : Ents Int Int) (left : Lf) : Prop := ∀ l ∈ L, getP ps l.Id = some (left l.Id)
theorem zsf.put {L : List Lot} {ps : Ents Int Int} {left : Lf} (h : zsf L ps left) (n v : Int) (c : Nat) : zsf L (putP ps n v c) (fun i => if i = n then v else left i) := fun l hl => by
 rw [zl0]
 by_cases e : l.Id = n
 ·rw [if_pos e]; simp [e]
 ·rw [if_neg e, h l hl]; simp [e]
structure Small (st : FS5) : Prop where
 left : ∀ n, st.left n ≤ 1073741824
 need : st.need ≤ 1125899906842624
theorem zm0 {s : FS5} (h : FSOk s) (k : Small s) (i : Int) (w : Want) (l : Lot) : Small (zea i w s l) := by
 have := zh4 h l
 unfold zea
 split
 ·exact k
 ·have := k.left l.Id; have := k.need
  refine ⟨fun n => ?_, by simp only; omega⟩
  simp only; split
  ·omega
  ·exact k.left n
section
variable {h0 h : za} {id : Nat} {L : List Lot} {W : List Want} {Q : AVal → za → Prop} {Y1 : List AVal → za → Prop} {v1 v8 v49 v50 v51 z : AVal} {Rz : List (List AVal)}
theorem fill_in (s1 : zec.Spec C N) {S : List Lot} (hz : SlX h0 6 z (S.map Lot.cs) Rz) (hS : ∀ l ∈ S, l ∈ L) (hSl : S.length ≤ 300) {w : Want} {at_ : Nat} {left : Lf} {out : List Use} (hok : FSOk ⟨left, w.Qty, out⟩) (hsm : Small ⟨left, w.Qty, out⟩) {x : AVal} {ps : Ents Int Int} {c : Nat}
  (ho : Owns h0 h [.blk id (zeq (encM kI vI ps) c), .sl 3 x (out.map Use.cs) []]) (ht : zsf L ps left) (hout : out.length ≤ 50000000)
  (hk : ∀ h' x' ps' c', Owns h0 h' [.blk id (zeq (encM kI vI ps') c'), .sl 3 x' ((S.foldl (zea at_ w) ⟨left, w.Qty, out⟩).out.map Use.cs) []] → zsf L ps' (S.foldl (zea at_ w) ⟨left, w.Qty, out⟩).left → (S.foldl (zea at_ w) ⟨left, w.Qty, out⟩).out.length ≤ out.length + S.length →
   zbb.k1 C N Q Y1 v1 (.mp id) v8 x' (.int .i64 (S.foldl (zea at_ w) ⟨left, w.Qty, out⟩).need) v49 v50 v51 h') :
  zm (zbb.l3 C N Q Y1 v1 (.mp id) v8 (.int .i64 (at_ : Int)) v49 v50 v51 z (.int .i64 (S.length : Int)) (.agg w.cs)) [x, .int .i64 w.Qty, .int .i64 0] h := by
 refine zm.intro (fun t vs hh => ∃ (j : Nat) (x : AVal) (ps : Ents Int Int) (c : Nat) (st : FS5), j + t = S.length ∧ st = (S.take j).foldl (zea at_ w) ⟨left, w.Qty, out⟩ ∧ vs = [x, .int .i64 st.need, .int .i64 (j : Int)] ∧
  Owns h0 hh [.blk id (zeq (encM kI vI ps) c), .sl 3 x (st.out.map Use.cs) []] ∧ zsf L ps st.left ∧ FSOk st ∧ Small st ∧ st.out.length ≤ out.length + j) S.length ?_ ⟨0, x, ps, c, _, by omega, rfl, rfl, ho, ht, hok, hsm, by simp⟩
 rintro Y t vs hh ⟨j, x, ps, c, st, htj, hst, rfl, o, hT, hok, hsm, hol⟩ hY
 simp -dsimp only [zbb.l3, zbb.k2, lssN, B.ze]
 refine B.zk (fun hb => ?_) (fun hb => ?_) <;> simp only [decide_eq_true_eq, decide_eq_false_iff_not] at hb
 ·have hzz := hz.mono o.le
  have hg : (S.map Lot.cs)[j]? = some (S[j]).cs := by rw [List.getElem?_map, List.getElem?_eq_getElem hb]; rfl
  have hidx : V.idxS 6 z (.int .i64 (j : Int)) = some (elp 6 z j 0) := hzz.idxN (by simpa using hb)
  have hlk : A.lkp hh (some .i) (some (.int .i64 0)) false (.mp id) (.int .i64 S[j].Id) = some (.int .i64 (st.left S[j].Id)) := by
   have := o.lkp 0 rfl keyI (0 : Int) S[j].Id
   rw [hT _ (hS _ (List.getElem_mem hb))] at this
   exact this
  have tk := zh4 hok S[j]
  have sm1 := hsm.left S[j].Id; have sm2 := hsm.need
  have lk0 := hok.left S[j].Id
  have hnext : (S.take (j + 1)).foldl (zea at_ w) ⟨left, w.Qty, out⟩ = zea at_ w st S[j] := by rw [take_one hb, List.foldl_append, ← hst]; rfl
  have fin : ∀ (x' : AVal) (ps' : Ents Int Int) (c' : Nat) (h' : za), Owns h0 h' [.blk id (zeq (encM kI vI ps') c'), .sl 3 x' ((zea at_ w st S[j]).out.map Use.cs) []] → zsf L ps' (zea at_ w st S[j]).left → (zea at_ w st S[j]).out.length ≤ out.length + (j + 1) →
    Y [x', .int .i64 (zea at_ w st S[j]).need, .int .i64 ((j + 1 : Nat) : Int)] h' := fun x' ps' c' h' o' hT' hl' =>
   hY (S.length - (j + 1)) _ _ (by omega) ⟨j + 1, x', ps', c', _, by omega, hnext.symm, rfl, o', hT', znx hok _ _ _, zm0 hok hsm _ _ _, hl'⟩
  have hadd := add1 (show j < 4611686018427387904 by omega)
  simp -dsimp only [hidx, B.zod, hzz.elem hg, setLot6, lotId, B.zlt, hlk, V.zqw, V.zh0, B.ze]
  have hte : min st.need (st.left S[j].Id) = zej st S[j] := rfl
  rw [hte]
  by_cases h0 : zej st S[j] = 0
  ·have hs : zea at_ w st S[j] = st := by unfold zea; rw [if_pos (.inl h0)]
   rw [hs] at fin
   simp -dsimp only [h0, decide_true, B.gd_f, Bool.not_true, B.zfo, B.zif, B.cond_true, hadd, B.ze, B.zlt]
   exact fin x ps c hh o hT (by omega)
  ·simp -dsimp only [h0, decide_false, B.gd_f, Bool.not_false, B.zeg, lotDays, wantDay, B.ze, B.zlt]
   refine s1 _ _ _ _ _ ?_
   simp -dsimp only [h0, decide_false, V.zf7, B.ze, B.gd_f, Bool.not_false, B.zeg, B.zje]
   refine B.zk (fun hc => ?_) (fun hc => ?_)
   ·have hs : zea at_ w st S[j] = st := by unfold zea; rw [if_pos (.inr (by simpa using hc))]
    rw [hs] at fin
    simp -dsimp only [hadd, B.ze]
    exact fin x ps c hh o hT (by omega)
   ·have hs : zea at_ w st S[j] = ⟨fun n => if n = S[j].Id then st.left S[j].Id - zej st S[j] else st.left n, st.need - zej st S[j], st.out ++ [⟨at_, S[j].Id, zej st S[j]⟩]⟩ := by
     unfold zea; rw [if_neg]
     intro hcc; rcases hcc with hcc | hcc
     ·exact h0 hcc
     ·rw [hcc] at hc; cases hc
    rw [hs] at fin
    simp -dsimp only [lotId, hlk, V.zf3, B.ze, B.zlt]
    rw [wrap_i64 (n := st.left S[j].Id - zej st S[j]) (by omega) (by omega)]
    refine o.mset 0 rfl keyI S[j].Id (st.left S[j].Id - zej st S[j]) fun h2 o2 _ _ => ?_
    simp -dsimp only [lotId, bldUse, fillUse1, V.zf3, B.ze, B.zlt]
    rw [wrap_i64 (n := st.need - zej st S[j]) (by omega) (by omega)]
    simp only [List.set_cons_zero] at o2
    refine o2.push 1 rfl (cs := Use.cs ⟨at_, S[j].Id, zej st S[j]⟩) rfl (by omega) (by simp; omega) (by simp [maxLen]; omega) fun x' h3 o3 _ => ?_
    simp -dsimp only [hadd, B.ze]
    refine fin x' _ _ h3 (by simpa using o3) (hT.put _ _ _) (by simp; omega)
 ·rw [List.take_of_length_le (by omega)] at hst
  subst hst
  exact hk hh x ps c o hT (by omega)
end
end Go.Ab
namespace Go.Ab
variable {C : CSem} {N : Nat → Nat}
theorem getPush {α : Type} {l : List α} (a : α) {n : Nat} (h : n = l.length) : (l ++ [a])[n]? = some a := by subst h; simp
theorem setPush {α : Type} {l : List α} (a b : α) {n : Nat} (h : n = l.length) : (l ++ [a]).set n b = l ++ [b] := by subst h; rw [List.set_append_right _ _ (Nat.le_refl _)]; simp
structure Bnd (left : Lf) : Prop where
 nn : LfOk left
 le : ∀ n, left n ≤ 1073741824
theorem zno {i : Int} {w : Want} : ∀ (S : List Lot) {s : FS5}, FSOk s → Small s → Small (S.foldl (zea i w) s)
 | [], _, _, h => h
 | l :: S, _, h, k => zno S (znx h i w l) (zm0 h k i w l)
theorem zp7 {L : List Lot} {W : List Want} (p : Fin W.length) (ps : List (Fin W.length)) (left : Lf) (out : List Use) : zgt L W (p :: ps) left out = if 0 < (zfg L (p.val : Int) W[p] left out).need then none else zgt L W ps (zfg L (p.val : Int) W[p] left out).left (zfg L (p.val : Int) W[p] left out).out := rfl
theorem rowOf_le (L : List Lot) (w : Want) : (rowOf L w).length ≤ L.length := by
 unfold rowOf
 exact Nat.le_trans (List.length_filter_le _ _) (by rw [zpw]; exact Nat.le_refl _)
section
variable {h0 h : za} {id idI : Nat} {L : List Lot} {W : List Want} {Q : AVal → za → Prop} {y z : AVal} {Rw : List (List AVal)}
theorem fill_days (s1 : zec.Spec C N) (hy : SlX h0 3 y (W.map Want.cs) Rw) (hz : SlX h0 1 z ((zbd W).map fc) []) (hL : L.length ≤ 300) (hW : W.length ≤ 20000) (hw : ∀ w ∈ W, zep w = true)
  (hit : ∀ s : List UInt8, ∃ x Rx, (∀ h', h0.le h' → A.lkp h' (some .s) (some .nils) false (.mp idI) (.str s) = some x) ∧ SlX h0 6 x (((zh2 L).filter fun l => decide (l.Item = s)).map Lot.cs) Rx)
  {left : Lf} (hb0 : Bnd left) {ps : Ents Int Int} {c : Nat} (ho : Owns h0 h [.blk id (zeq (encM kI vI ps) c)]) (ht : zsf L ps left)
  (hno : ∀ h', h0.le h' → zgt L W (zbd W) left [] = none → Q (.tup [.nils, .nilm, .bool false]) h')
  (hyes : ∀ h' us lf x' ps' c', zgt L W (zbd W) left [] = some (us, lf) → Owns h0 h' [.blk id (zeq (encM kI vI ps') c'), .sl 3 x' (us.map Use.cs) []] → zsf L ps' lf → Bnd lf → us.length ≤ 6000000 → Q (.tup [x', .mp id, .bool true]) h') :
  zm (zbb.l7 C N Q y (.mp id) (.mp idI) z (.int .i64 (W.length : Int))) [.nils, .int .i64 0] h := by
 refine zm.intro (fun t vs hh => ∃ (k : Nat) (x : AVal) (ps : Ents Int Int) (c : Nat) (lf : Lf) (out : List Use), k + t = W.length ∧ vs = [x, .int .i64 (k : Int)] ∧ Owns h0 hh [.blk id (zeq (encM kI vI ps) c), .sl 3 x (out.map Use.cs) []] ∧ zsf L ps lf ∧ Bnd lf ∧ out.length ≤ 300 * k ∧
  zgt L W ((zbd W).drop k) lf out = zgt L W (zbd W) left []) W.length ?_ ⟨0, .nils, ps, c, left, [], by omega, rfl, by simpa using ho.nils 3, ht, hb0, by simp, by simp⟩
 rintro Y t vs hh ⟨k, x, ps, c, lf, out, hkt, rfl, o, hT, hB, hol, hf⟩ hY
 simp -dsimp only [zbb.l7, zbb.k6, lssN, B.ze]
 refine B.zk (fun hb => ?_) (fun hb => ?_) <;> simp only [decide_eq_true_eq, decide_eq_false_iff_not] at hb
 ·have hk' : k < (zbd W).length := by rw [zfp]; exact hb
  have hzz := hz.mono o.le
  have hyy := hy.mono o.le
  have hidx : V.idxS 1 z (.int .i64 (k : Int)) = some (elp 1 z k 0) := hzz.idxN (by simpa using hk')
  have hg : ((zbd W).map fc)[k]? = some (fc (zbd W)[k]) := by rw [List.getElem?_map, List.getElem?_eq_getElem hk']; rfl
  have hidy : V.idxS 3 y (.int .i64 ((zbd W)[k].val : Int)) = some (elp 3 y (zbd W)[k].val 0) := hyy.idxN (by simp)
  have hgy : (W.map Want.cs)[(zbd W)[k].val]? = some (W[(zbd W)[k]]).cs := by rw [List.getElem?_map, List.getElem?_eq_getElem (zbd W)[k].2]; rfl
  have wr := zgc (hw W[(zbd W)[k]] (List.getElem_mem _))
  obtain ⟨gx, Rx, glk, gs⟩ := hit W[(zbd W)[k]].Item
  have gl := gs.zcj
  rw [List.length_map] at gl
  have rl := rowOf_le L W[(zbd W)[k]]
  simp -dsimp only [hidx, B.zic, hzz.cell hg, zbb.k5, hidy, B.zod, hyy.elem hgy, setWant, wantQty, zbb.k4, wantItem, B.zlt, glk _ o.le, gl, B.ze]
  have hd : (zbd W).drop k = (zbd W)[k] :: (zbd W).drop (k + 1) := List.drop_eq_getElem_cons hk'
  rw [hd, zp7] at hf
  have hok : FSOk ⟨lf, W[(zbd W)[k]].Qty, out⟩ := ⟨hB.nn, by simp only; omega⟩
  have hsm : Small ⟨lf, W[(zbd W)[k]].Qty, out⟩ := ⟨hB.le, by simp only; omega⟩
  refine fill_in s1 (S := rowOf L W[(zbd W)[k]]) gs (fun l hl => (zhj L).mem_iff.1 (List.mem_filter.1 hl).1) (by omega) hok hsm o hT (by omega) fun h' x' ps' c' o' hT' hl' => ?_
  have e : (rowOf L W[(zbd W)[k]]).foldl (zea ((zbd W)[k].val : Int) W[(zbd W)[k]]) ⟨lf, W[(zbd W)[k]].Qty, out⟩ = zfg L ((zbd W)[k].val : Int) W[(zbd W)[k]] lf out := rfl
  have hok' : FSOk (zfg L ((zbd W)[k].val : Int) W[(zbd W)[k]] lf out) := foldU_ok _ hok
  have hsm' : Small (zfg L ((zbd W)[k].val : Int) W[(zbd W)[k]] lf out) := zno _ hok hsm
  simp only [e] at o' hT' hl' ⊢
  simp -dsimp only [zbb.k1, V.zsc, B.ze]
  refine B.zk (fun hc => ?_) (fun hc => ?_)
  ·rw [decide_eq_true_eq] at hc
   rw [if_pos (by omega)] at hf
   exact hno _ o'.le hf.symm
  ·rw [decide_eq_false_iff_not] at hc
   rw [if_neg (by omega)] at hf
   simp -dsimp only [add1 (show k < 4611686018427387904 by omega), B.ze]
   exact hY (W.length - (k + 1)) _ _ (by omega) ⟨k + 1, x', ps', c', _, _, by omega, rfl, o', hT', ⟨hok'.left, hsm'.left⟩, by omega, hf⟩
 ·rw [List.drop_eq_nil_of_le (by rw [zfp]; omega)] at hf
  exact hyes hh out lf x ps c hf.symm o hT hB (by omega)
theorem fill_maps {S : List Lot} {v1 : AVal} {xs : AVal} (hS : S.length ≤ 300) {ci : Nat} (ho : Owns h0 h [.blk id (zeq (encM kI vI []) 0), .blk idI (zeq (encM kS vA []) ci), .sl 6 xs (S.map Lot.cs) []])
  (hn : (S.map Lot.Id).Nodup)
  (hk : ∀ h' psL cL psI cI G, Owns h0 h' ([.blk id (zeq (encM kI vI psL) cL), .blk idI (zeq (encM kS vA psI) cI), .sl 6 xs (S.map Lot.cs) []] ++ G.map gOb) → zqh S S.length psI G → (∀ l ∈ S, getP psL l.Id = some l.Qty) →
   B.call C (N 240) [v1] h' fun v49 h => B.pv (V.zcj v49) fun v50 => zm (zbb.l7 C N Q v1 (.mp id) (.mp idI) v49 v50) [.nils, (.int .i64 0)] h) :
  zm (zbb.l9 C N Q v1 (.mp id) (.mp idI) xs (.int .i64 (S.length : Int))) [.int .i64 0] h := by
 refine zm.intro (fun t vs hh => ∃ (k : Nat) (psL : Ents Int Int) (cL : Nat) (psI : Ents (List UInt8) AVal) (cI : Nat) (G : List Gp), k + t = S.length ∧ vs = [.int .i64 (k : Int)] ∧
  Owns h0 hh ([.blk id (zeq (encM kI vI psL) cL), .blk idI (zeq (encM kS vA psI) cI), .sl 6 xs (S.map Lot.cs) []] ++ G.map gOb) ∧ zqh S k psI G ∧ (∀ l ∈ S.take k, getP psL l.Id = some l.Qty)) S.length ?_
  ⟨0, [], 0, [], ci, [], by omega, rfl, by simpa using ho, ⟨fun s => by simp [getP], by simp, by simp, by simp⟩, by simp⟩
 rintro Y t vs hh ⟨k, psL, cL, psI, cI, G, hkt, rfl, o, gr, hq⟩ hY
 simp -dsimp only [zbb.l9, zbb.k8, lssN, B.ze]
 refine B.zk (fun hb => ?_) (fun hb => ?_) <;> simp only [decide_eq_true_eq, decide_eq_false_iff_not] at hb
 ·have hz := o.slAt 2 rfl
  have hg : (S.map Lot.cs)[k]? = some (S[k]).cs := by rw [List.getElem?_map, List.getElem?_eq_getElem hb]; rfl
  have hidx : V.idxS 6 xs (.int .i64 (k : Int)) = some (elp 6 xs k 0) := hz.idxN (by simpa using hb)
  simp -dsimp only [hidx, B.zod, hz.elem hg, setLot6, lotId, lotQty, B.zlt, B.ze]
  refine o.mset 0 rfl keyI S[k].Id S[k].Qty fun h2 o2 _ _ => ?_
  simp only [List.cons_append, List.nil_append, List.set_cons_zero] at o2
  have hlk : A.lkp h2 (some .s) (some .nils) false (.mp idI) (.str S[k].Item) = some ((getP psI S[k].Item).getD .nils) := o2.lkp 1 rfl keyS (v := vA) AVal.nils S[k].Item
  simp -dsimp only [lotItem, getLot6, B.zlt, hlk, fillLot1, B.ze]
  have hq' : ∀ l ∈ S.take (k + 1), getP (putP psL S[k].Id S[k].Qty cL) l.Id = some l.Qty := fun l hl => by
   rw [zl0]
   rw [take_one hb] at hl
   rcases List.mem_append.1 hl with hl | hl
   ·rw [if_neg, hq l hl]
    intro e
    obtain ⟨j, hj, rfl⟩ := List.getElem_of_mem hl
    rw [List.length_take] at hj
    rw [List.getElem_take] at e
    have := zi4 hn (i := j) (j := k) (by simp; omega) (by simpa using hb) (by simpa using e)
    omega
   ·rw [List.mem_singleton.1 hl, if_pos rfl]
  have hgl : ∀ g ∈ G, g.2.2.length ≤ 300 := fun g hg => by
   rw [gr.lots g hg]
   exact Nat.le_trans (List.length_filter_le _ _) (by rw [List.length_take]; omega)
  have hget := gr.get S[k].Item
  by_cases hin : S[k].Item ∈ G.map (·.1)
  ·obtain ⟨j, hj, e⟩ := List.getElem_of_mem hin
   have hj' : j < G.length := by simpa using hj
   have hgj : G[j]? = some G[j] := List.getElem?_eq_getElem hj'
   have e2 : G[j].1 = S[k].Item := by simpa using e
   rw [← e2, find_at gr.nd hgj, e2] at hget
   have hl300 := hgl _ (List.getElem_mem hj')
   rw [hget]
   simp only [Option.map_some, Option.getD_some]
   have ob : ([Ob.blk id (zeq (encM kI vI (putP psL S[k].Id S[k].Qty cL)) (clkP psL S[k].Id cL)), .blk idI (zeq (encM kS vA psI) cI), .sl 6 xs (S.map Lot.cs) []] ++ G.map gOb)[3 + j]? = some (.sl 6 G[j].2.1 (G[j].2.2.map Lot.cs) []) := by
    rw [List.getElem?_append_right (by simp)]
    simp [hj', gOb]
   refine o2.push (3 + j) ob (cs := Lot.cs S[k]) rfl (by omega) (by simp; omega) (by simp [maxLen]; omega) fun x' h3 o3 _ => ?_
   have e3 : ([Ob.blk id (zeq (encM kI vI (putP psL S[k].Id S[k].Qty cL)) (clkP psL S[k].Id cL)), .blk idI (zeq (encM kS vA psI) cI), .sl 6 xs (S.map Lot.cs) []] ++ G.map gOb).set (3 + j) (.sl 6 x' (G[j].2.2.map Lot.cs ++ [Lot.cs S[k]]) []) =
     [Ob.blk id (zeq (encM kI vI (putP psL S[k].Id S[k].Qty cL)) (clkP psL S[k].Id cL)), .blk idI (zeq (encM kS vA psI) cI), .sl 6 xs (S.map Lot.cs) []] ++ (G.set j (G[j].1, x', G[j].2.2 ++ [S[k]])).map gOb := by
    rw [List.set_append_right _ _ (by simp)]
    simp [gOb]
   have o3' : Owns h0 h3 _ := o3
   rw [show (Ob.blk id (zeq (encM kI vI (putP psL S[k].Id S[k].Qty cL)) (clkP psL S[k].Id cL)) :: .blk idI (zeq (encM kS vA psI) cI) :: .sl 6 xs (S.map Lot.cs) [] :: G.map gOb).set (3 + j) (Ob.sl 6 x' (G[j].2.2.map Lot.cs ++ [Lot.cs S[k]]) []) = _ from e3] at o3'
   refine o3'.mset 1 rfl keyS S[k].Item x' fun h4 o4 _ _ => ?_
   simp -dsimp only [add1 (show k < 4611686018427387904 by omega), B.ze]
   exact hY (S.length - (k + 1)) _ _ (by omega) ⟨k + 1, _, _, _, _, _, by omega, rfl, o4, gr.old hb hgj e2 x' cI, hq'⟩
  ·have hnone : (G.find? fun g => decide (g.1 = S[k].Item)) = none := by
    rw [List.find?_eq_none]; intro g hg; simp; intro e; exact hin (by rw [← e]; exact List.mem_map_of_mem hg)
   rw [hnone] at hget
   rw [hget]
   simp only [Option.map_none, Option.getD_none]
   have o2' := o2.nils 6
   refine o2'.push (3 + G.length) (es := 6) (x := .nils) (L := []) (R := []) ?_ (cs := Lot.cs S[k]) rfl (by omega) (by simp) (by simp [maxLen]) fun x' h3 o3 _ => ?_
   ·exact getPush _ (by simp only [List.length_cons, List.length_map]; omega)
   have e3 : (Ob.blk id (zeq (encM kI vI (putP psL S[k].Id S[k].Qty cL)) (clkP psL S[k].Id cL)) :: .blk idI (zeq (encM kS vA psI) cI) :: .sl 6 xs (S.map Lot.cs) [] :: G.map gOb ++ [Ob.sl 6 .nils [] []]).set (3 + G.length) (Ob.sl 6 x' ([] ++ [Lot.cs S[k]]) []) =
     [Ob.blk id (zeq (encM kI vI (putP psL S[k].Id S[k].Qty cL)) (clkP psL S[k].Id cL)), .blk idI (zeq (encM kS vA psI) cI), .sl 6 xs (S.map Lot.cs) []] ++ (G ++ [(S[k].Item, x', [S[k]])]).map gOb := by
    rw [setPush _ _ (by simp only [List.length_cons, List.length_map]; omega)]
    simp [gOb]
   have o3' : Owns h0 h3 _ := o3
   rw [e3] at o3'
   refine o3'.mset 1 rfl keyS S[k].Item x' fun h4 o4 _ _ => ?_
   simp -dsimp only [add1 (show k < 4611686018427387904 by omega), B.ze]
   exact hY (S.length - (k + 1)) _ _ (by omega) ⟨k + 1, _, _, _, _, _, by omega, rfl, o4, gr.fresh hb hin x' cI, hq'⟩
 ·rw [List.take_of_length_le (by omega)] at hq
  have hkS : k = S.length := by omega
  subst hkS
  exact hk hh psL cL psI cI G o gr hq
end
end Go.Ab
namespace Go.Ab
variable {C : CSem} {N : Nat → Nat}
def zbb.Spec (C : CSem) (N : Nat → Nat) : Prop := ∀ (x y : AVal) (L : List Lot) (W : List Want) (R S : List (List AVal)) (h : za) (Q : AVal → za → Prop), SlX h 6 x (L.map Lot.cs) R → SlX h 3 y (W.map Want.cs) S → L.length < 4611686018427387904 → W.length < 4611686018427387904 →
 (zff L W = none → Q (.tup [.nils, .nilm, .bool false]) h) →
 (∀ h' us lf x' id ps c, zff L W = some (us, lf) → zgs L W = true → Owns h h' [.blk id (zeq (encM kI vI ps) c), .sl 3 x' (us.map Use.cs) []] → zsf L ps lf → Bnd lf → us.length ≤ 6000000 → Q (.tup [x', .mp id, .bool true]) h') → C (N 232) [x, y] h Q
theorem left0_bnd {L : List Lot} (h : ∀ l ∈ L, ze7 l = true) : Bnd (znj L) := ⟨left0_ok h, fun i => by
 unfold znj
 cases hf : L.find? (fun a => decide (a.Id = i)) with
 | none => simp
 | some a => have := zjv (h a (List.mem_of_find?_eq_some hf)); simp only; omega⟩
theorem zbb.spec (i : zbb.Imp C N) (s1 : zb4.Spec C N) (s2 : zfj.Spec C N) (s3 : zdo.Spec C N) (s4 : zec.Spec C N) : zbb.Spec C N := by
 intro x y L W R S h Q hx hy hlen hlen2 hno hyes
 apply i
 simp -dsimp only [zbb.cps, zbb.k11]
 refine s1 _ _ _ _ _ _ _ _ hx hy hlen hlen2 ?_
 simp -dsimp only [V.zf7, B.ze]
 cases hm : zgs L W with
 | false =>
  simp -dsimp only [Bool.not_false, B.cond_true]
  exact zba (hno (by unfold zff; rw [hm]; rfl))
 | true =>
  simp -dsimp only [Bool.not_true, B.cond_false]
  have hgr : zff L W = zgt L W (zbd W) (znj L) [] := by unfold zff; rw [hm]; rfl
  obtain ⟨f1, f2, f3, f4, f5⟩ := zg7 hm
  refine (Owns.start h).zmn (K := Int) (T := Int) kI vI fun id h1 _ o1 _ => ?_
  simp -dsimp only [zbb.k10]
  refine o1.zmn (K := List UInt8) (T := AVal) kS vA fun idI h2 _ o2 _ => ?_
  simp only [List.nil_append, List.cons_append] at o2
  refine s2 _ _ _ _ _ (hx.mono o2.le) (by omega) fun xs h3 os => ?_
  have o3 := o2.join os
  have e1 := os.slAt 0 rfl
  have e2 := e1.zcj
  rw [List.length_map] at e2
  simp -dsimp only [e2, B.ze]
  refine fill_maps (by rw [zpw]; exact f1) o3 (zmk f4) fun h4 psL cL psI cI G o4 gr hq => ?_
  refine s3 _ _ _ _ _ (hy.mono o4.le) f2 f5 fun z h5 oz => ?_
  have o5 := o4.join oz
  have ez := (oz.slAt 0 rfl).zcj
  rw [List.length_map, zfp] at ez
  simp -dsimp only [ez, B.ze]
  have o6 := o5.perm (l' := ((.blk idI (zeq (encM kS vA psI) cI)) :: .sl 6 xs ((zh2 L).map Lot.cs) [] :: (G.map gOb ++ [.sl 1 z ((zbd W).map fc) []])) ++ [.blk id (zeq (encM kI vI psL) cL)]) (by
   simp only [List.cons_append, List.nil_append, List.append_assoc]
   refine List.Perm.trans ?_ (List.perm_append_comm (l₁ := [Ob.blk id (zeq (encM kI vI psL) cL)]) (l₂ := (.blk idI (zeq (encM kS vA psI) cI)) :: .sl 6 xs ((zh2 L).map Lot.cs) [] :: (G.map gOb ++ [.sl 1 z ((zbd W).map fc) []])) |>.trans ?_)
   ·exact List.Perm.refl _
   ·simp)
  obtain ⟨oa, ob⟩ := o6.out
  have zz : SlX _ 1 z ((zbd W).map fc) [] := oa.is (.sl 1 z ((zbd W).map fc) []) (by simp)
  have ii : _ = some (zeq (encM kS vA psI) cI) := oa.is (.blk idI (zeq (encM kS vA psI) cI)) (by simp)
  have memL : ∀ l, l ∈ zh2 L ↔ l ∈ L := fun l => (zhj L).mem_iff
  refine fill_days s4 (L := L) (W := W) (hy.mono oa.le) zz f1 f2 f5 (fun s => ?_) (left0_bnd f3) (c := cL) (ps := psL) ob (fun l hl => ?_) (fun h' hle hn => ?_) (fun h' us lf x' ps' c' he o' hT' hB' hl' => ?_)
  ·have hg := gr.get s
   have hlk : ∀ h', za.le _ h' → A.lkp h' (some .s) (some .nils) false (.mp idI) (.str s) = some ((getP psI s).getD .nils) := fun h' hle => lkp_blk keyS (v := vA) (hle _ _ ii) AVal.nils s false
   refine ⟨_, [], hlk, ?_⟩
   rw [hg]
   ·cases hf : G.find? fun g => decide (g.1 = s) with
    | none =>
     have : s ∉ G.map (·.1) := fun hm => by
      rw [List.find?_eq_none] at hf
      obtain ⟨g, hg1, hg2⟩ := List.mem_map.1 hm
      exact hf g hg1 (by simp [hg2])
     have e := gr.none_ s this
     rw [List.take_length] at e
     rw [e]
     exact SlX.nils _ _
    | some g =>
     have h1 := List.find?_some hf
     have h2 := List.mem_of_find?_eq_some hf
     simp only [decide_eq_true_eq] at h1
     have e := gr.lots g h2
     rw [List.take_length, h1] at e
     rw [← e]
     exact oa.is (gOb g) (by simp only [List.mem_cons, List.mem_append, List.mem_map]; exact .inr (.inr (.inl ⟨g, h2, rfl⟩)))
  ·rw [hq l ((memL l).2 hl), left0_of f4 hl]
  ·exact zk5 (za.le_trans oa.le hle) (hno (hgr.trans hn))
  ·exact zba (hyes h' us lf x' id ps' c' (hgr.trans he) hm (o'.back oa.le) hT' hB' hl')
def ze0.Spec (C : CSem) (N : Nat → Nat) : Prop := ∀ (x y : AVal) (L : List Lot) (W : List Want) (R S : List (List AVal)) (h : za) (Q : AVal → za → Prop), SlX h 6 x (L.map Lot.cs) R → SlX h 3 y (W.map Want.cs) S → L.length < 4611686018427387904 → W.length < 4611686018427387904 →
 Q (.bool (zff L W).isSome) h → C (N 215) [x, y] h Q
theorem ze0.spec (i : ze0.Imp C N) (s1 : zbb.Spec C N) : ze0.Spec C N := by
 intro x y L W R S h Q hx hy hlen hlen2 hq
 apply i
 simp -dsimp only [ze0.cps]
 refine s1 _ _ _ _ _ _ _ _ hx hy hlen hlen2 (fun hn => ?_) fun h' us lf x' id ps c he _ o _ _ _ => ?_
 ·rw [hn] at hq
  simp -dsimp only [V.zjy, List.getElem?_cons_zero, List.getElem?_cons_succ, B.ze]
  exact zba hq
 ·rw [he] at hq
  simp -dsimp only [V.zjy, List.getElem?_cons_zero, List.getElem?_cons_succ, B.ze]
  exact zk5 o.le hq
def FillQ (L : List Lot) (W : List Want) (h : za) (Q : AVal → za → Prop) : Prop :=
 (zff L W = none → Q (.tup [.nils, .bool false]) h) ∧ ∀ us lf, zff L W = some (us, lf) → us.length ≤ 6000000 → ∀ h' x', Owns h h' [.sl 3 x' (us.map Use.cs) []] → Q (.tup [x', .bool true]) h'
end Go.Ab
namespace Go.Ab
variable {C : CSem} {N : Nat → Nat}
def z4.Spec (C : CSem) (N : Nat → Nat) : Prop := ∀ (x : AVal) (L : List Want) (R : List (List AVal)) (h : za) (Q : AVal → za → Prop), SlX h 3 x (L.map Want.cs) R →
 (∀ y, SlX h 3 y (L.map Want.cs) [] → (foot y = foot x ∨ foot y = none) → Exact y → (L = [] → y = .nils ∨ y = .sz) → Q y h) → C (N 338) [x] h Q
theorem z4.spec (i : z4.Imp C N) : z4.Spec C N := by
 intro x L R h Q hx hq
 apply i
 have e1 := hx.zcj
 rw [List.length_map] at e1
 obtain ⟨y, c1, c2, c3, c4, c5⟩ := hx.cut3x (k := L.length) (j1 := .i64) (j2 := .i64) (j3 := .i64) (by simp)
 rw [List.take_of_length_le (by simp)] at c2
 simp -dsimp only [z4.cps, zpx.cps, opsF, e1, c1, B.ze]
 exact zba (hq y c2 (c3.imp id fun h => h.1) c4 fun hl => c5 (by rw [hl]; rfl))
def zdf (W : List Want) (M : List Part) (d : Int) : List Want := W ++ M.map fun p => ⟨p.Item, d, p.Qty⟩
theorem zps {W : List Want} {M : List Part} {d : Int} {k : Nat} (hk : k < M.length) : zdf W (M.take (k + 1)) d = zdf W (M.take k) d ++ [⟨M[k].Item, d, M[k].Qty⟩] := by
 unfold zdf
 rw [List.take_add_one, List.getElem?_eq_getElem hk, List.map_append, List.append_assoc]; rfl
def zdq.Spec (C : CSem) (N : Nat → Nat) : Prop := ∀ (x y z : AVal) (L : List Lot) (W : List Want) (M : List Part) (R S T : List (List AVal)) (d : Int) (h : za) (Q : AVal → za → Prop), SlX h 6 x (L.map Lot.cs) R → SlX h 3 y (W.map Want.cs) S → SlX h 2 z (M.map Part.cs) T →
 (∀ id b, foot y = some id → h id = some b → b.own = false) → L.length < 4611686018427387904 → W.length + M.length ≤ 100000000 → Q (.bool (zff L (zdf W M d)).isSome) h → C (N 333) [x, y, z, .int .i64 d] h Q
theorem zdq.spec (i : zdq.Imp C N) (s1 : z4.Spec C N) (s2 : ze0.Spec C N) : zdq.Spec C N := by
 intro x y z L W M R S T d h Q hx hy hz hno hl1 hl2 hq
 apply i
 have ez := hz.zcj
 rw [List.length_map] at ez
 simp -dsimp only [zdq.cps]
 refine s1 _ _ _ _ _ hy fun a ha hfa hea hna => ?_
 simp -dsimp only [ez, B.ze]
 refine zm.intro (fun t vs hh => ∃ (k : Nat) (u : AVal), k + t = M.length ∧ vs = [u, .int .i64 (k : Int)] ∧ ((k = 0 ∧ hh = h ∧ u = a) ∨ (0 < k ∧ Owns h hh [.sl 3 u ((zdf W (M.take k) d).map Want.cs) []]))) M.length ?_ ⟨0, a, by omega, rfl, .inl ⟨rfl, rfl, rfl⟩⟩
 rintro Y t vs hh ⟨k, u, hkt, rfl, hu⟩ hY
 have hle : h.le hh := by
  rcases hu with ⟨_, rfl, _⟩ | ⟨_, o⟩
  ·exact za.le_refl _
  ·exact o.le
 have hzz := hz.mono hle
 simp -dsimp only [zdq.l2, zdq.k1, lssN, B.ze]
 refine B.zk (fun hb => ?_) (fun hb => ?_)
 ·rw [decide_eq_true_eq] at hb
  have hg : (M.map Part.cs)[k]? = some (M[k]).cs := by rw [List.getElem?_map, List.getElem?_eq_getElem hb]; rfl
  have hidx : V.idxS 2 z (.int .i64 (k : Int)) = some (elp 2 z k 0) := hzz.idxN (by simpa using hb)
  have hel := hzz.elem hg
  simp -dsimp [hidx, hel]
  have step : ∀ u' h', Owns h h' [.sl 3 u' ((zdf W (M.take (k + 1)) d).map Want.cs) []] → Y [u', .int .i64 ((k + 1 : Nat) : Int)] h' := fun u' h' o' => hY (t - 1) _ _ (by omega) ⟨k + 1, u', by omega, rfl, .inr ⟨by omega, o'⟩⟩
  have e1 := zps (W := W) (d := d) hb
  have e2 : (zdf W (M.take (k + 1)) d).map Want.cs = (zdf W (M.take k) d).map Want.cs ++ [[.str (M[k]).Item, .int .i64 d, .int .i64 (M[k]).Qty]] := by rw [e1, List.map_append]; rfl
  have hwl : (zdf W (M.take k) d).length ≤ W.length + k := by unfold zdf; simp; omega
  have fin : ∀ u' h', Owns h h' [.sl 3 u' ((zdf W (M.take (k + 1)) d).map Want.cs) []] → B.pv (V.bin .add (.int .i64 (k : Int)) (.int .i64 1)) fun v29 => Y [u', v29] h' := fun u' h' o' => by
   simp -dsimp only [add1 (show k < 4611686018427387904 by omega), B.ze]
   exact step u' h' o'
  rcases hu with ⟨rfl, rfl, rfl⟩ | ⟨hk0, o⟩
  ·intro id hid
   have hw0 : zdf W (M.take 0) d = W := by simp [zdf]
   rw [hw0] at e2
   have hgr := zgo (zex [AVal.str (M[0]).Item, .int .i64 d, .int .i64 (M[0]).Qty]) hid
   refine SlX.appE (M := [[AVal.str (M[0]).Item, .int .i64 d, .int .i64 (M[0]).Qty]]) (R' := []) (ha.mono hgr) hea (fun hl => hna (List.map_eq_nil_iff.1 hl)) (fun i b hf hb' => ?_) (SlX.lit (zbh ..) (by simp) rfl (by simp) (by simp)) (by omega) (by simp) (by simp; omega) (by simp [maxLen]; omega) fun u' h' o' => fin u' h' ?_
   ·rcases hfa with e | e
    ·rw [e] at hf
     obtain ⟨c, hc⟩ := hy.known hf
     have : upd hh id (zex [AVal.str (M[0]).Item, .int .i64 d, .int .i64 (M[0]).Qty]) i = some c := hgr i c hc
     rw [this] at hb'; cases hb'
     exact hno i b hf hc
    ·rw [e] at hf; cases hf
   ·rw [e2]; exact o'.back hgr
  ·refine o.push 0 rfl (cs := [AVal.str (M[k]).Item, .int .i64 d, .int .i64 (M[k]).Qty]) rfl (by omega) (by rw [List.length_map]; omega) (by rw [List.length_map]; simp only [maxLen]; omega) fun u' h' o' _ => fin u' h' ?_
   rw [e2]; exact o'
 ·rw [decide_eq_false_iff_not] at hb
  have hk : k = M.length := by omega
  subst hk
  rw [List.take_length] at hu
  rcases hu with ⟨k0, rfl, rfl⟩ | ⟨_, o⟩
  ·have : M = [] := List.eq_nil_of_length_eq_zero k0
   subst this
   refine s2 _ _ _ _ _ _ _ _ hx ha hl1 (by omega) (zba ?_)
   simpa [zdf] using hq
  ·have hxx := hx.mono hle
   refine s2 _ _ _ _ _ _ _ _ hxx (o.slAt 0 rfl) hl1 (by unfold zdf; simp; omega) (zk5 hle hq)
end Go.Ab
set_option maxRecDepth 100000
namespace Go.Ab
variable {C : CSem} {N : Nat → Nat}
structure TellLent (h : za) (t : zi7) (x y : AVal) : Prop where
 lots : SlX h 6 x (t.Lots.map Lot.cs) marksLot
 uses : SlX h 3 y (t.Uses.map Use.cs) marksUse
theorem TellLent.at_ {h : za} {t : zi7} {x y : AVal} (a : TellLent h t x y) : TellAt h t x y := ⟨⟨_, a.lots⟩, ⟨_, a.uses⟩⟩
end Go.Ab
set_option maxRecDepth 100000
namespace Go.Ab
variable {C : CSem} {N : Nat → Nat}
@[simp] theorem Objs_zero {es : Nat} {xs : Nat → AVal} {D R : Nat → List (List AVal)} : Objs es 0 xs D R = [] := rfl
end Go.Ab
namespace Go.Ab
variable {C : CSem} {N : Nat → Nat}
theorem Owns.lit2L {h0 h : za} {l : List Ob} (ho : Owns h0 h l) {x y : AVal} {id : Nat} (hid : h id = none) : Owns h0 (upd h id (zex [x, y])) (l ++ [.sl 1 (.sl id 0 0 2 1 2) [[x], [y]] []]) :=
 ho.newSl hid (by simp) rfl (by simp) rfl
end Go.Ab
namespace Go.Ab
variable {C : CSem} {N : Nat → Nat}
def zkv (w : zbz) (l : Lot) : List Int := match meet ⟨l.From, l.zel⟩ w with
 | (m, true) => [m.From, m.zel]
 | (_, false) => []
def zfh (a b : Int) (L : List Lot) : List Int := [a, b + 1] ++ L.flatMap (zkv ⟨a, b + 1⟩)
theorem endsRow_take {a b : Int} {L : List Lot} {k : Nat} (hk : k < L.length) : zfh a b (L.take (k + 1)) = zfh a b (L.take k) ++ zkv ⟨a, b + 1⟩ L[k] := by
 unfold zfh
 rw [List.take_add_one, List.getElem?_eq_getElem hk, List.flatMap_append, List.append_assoc]
 simp
theorem zns (a b : Int) : ∀ L : List Lot, (zfh a b L).length ≤ 2 + 2 * L.length := by
 intro L
 unfold zfh
 simp only [List.length_append, List.length_cons, List.length_nil]
 have : ∀ L : List Lot, (L.flatMap (zkv ⟨a, b + 1⟩)).length ≤ 2 * L.length := by
  intro L
  induction L with
  | nil => simp
  | cons l r ih =>
   simp only [List.flatMap_cons, List.length_append, List.length_cons]
   have : (zkv ⟨a, b + 1⟩ l).length ≤ 2 := by unfold zkv; split <;> simp
   omega
 have := this L
 omega
def zcp.Spec (C : CSem) (N : Nat → Nat) : Prop := ∀ (x : AVal) (L : List Lot) (R : List (List AVal)) (a b : Int) (h : za) (Q : AVal → za → Prop), SlX h 6 x (L.map Lot.cs) R → L.length ≤ 1000000 → -4611686018427387904 ≤ b → b < 4611686018427387904 →
 (∀ p z (S : List Int) R' h', S.Perm (zfh a b L) → S.Pairwise (fun s t => s ≤ t) → Owns h h' [.box p [z], .sl 1 z ((zev S).map icl) R'] → Q (.fn (N 337) [] [p]) h') → C (N 334) [.int .i64 a, .int .i64 b, x] h Q
theorem zcp.spec (i : zcp.Imp C N) (s1 : zd4.Spec C N) (s2 : zb9.Spec C N) (s3 : zbj.Spec C N) : zcp.Spec C N := by
 intro x L R a b h Q hx hlen hb1 hb2 hq
 apply i
 have ex := hx.zcj
 rw [List.length_map] at ex
 have eb : V.bin .add (.int .i64 b) (.int .i64 1) = some (.int .i64 (b + 1)) := by rw [V.znv, wrap_i64 (by omega) (by omega)]
 simp -dsimp only [zcp.cps, zcp.k4, eb, B.ze]
 intro i15 h15
 have o1 := (Owns.start h).lit2L (x := .int .i64 a) (y := .int .i64 (b + 1)) h15
 intro i7 h7
 have o2 := o1.zj9 h7 [.nils]
 refine o2.znt 1 (off := 0) rfl rfl (by simp) fun h3 o3 _ => ?_
 have o3 : Owns h h3 [.sl 1 (.sl i15 0 0 2 1 2) ((zfh a b (L.take 0)).map icl) [], .box (.ptr i7 0 0) [.sl i15 0 0 2 1 2]] := o3
 simp -dsimp only [ex, B.ze]
 refine zm.intro (fun t vs hh => ∃ (k : Nat) (z : AVal), k + t = L.length ∧ vs = [.int .i64 (k : Int)] ∧ Owns h hh [.sl 1 z ((zfh a b (L.take k)).map icl) [], .box (.ptr i7 0 0) [z]]) L.length ?_ ⟨0, _, by omega, rfl, o3⟩
 rintro Y t vs hh ⟨k, z, hkt, rfl, o⟩ hY
 have hxx := hx.mono o.le
 obtain ⟨_, e7, hb7⟩ := o.zhu 1 rfl
 cases e7
 have ld : A.ldv hh (.ptr i7 0 0) = some z := by rw [zfs hb7]; rfl
 have hrl := zns a b (L.take k)
 rw [List.length_take] at hrl
 simp -dsimp only [zcp.l3, zcp.k2, lssN, B.ze]
 refine B.zk (fun hb => ?_) (fun hb => ?_)
 ·rw [decide_eq_true_eq] at hb
  have hg : (L.map Lot.cs)[k]? = some (L[k]).cs := by rw [List.getElem?_map, List.getElem?_eq_getElem hb]; rfl
  have hidx : V.idxS 6 x (.int .i64 (k : Int)) = some (elp 6 x k 0) := hxx.idxN (by simpa using hb)
  have hel := hxx.elem hg
  have er := endsRow_take (a := a) (b := b) hb
  simp -dsimp [hidx, hel, eb]
  refine s1 _ _ _ _ _ _ ?_
  have eo : zkv ⟨a, b + 1⟩ L[k] = match meet ⟨(L[k]).From, (L[k]).zel⟩ ⟨a, b + 1⟩ with
   | (m, true) => [m.From, m.zel]
   | (_, false) => [] := rfl
  have stay : zkv ⟨a, b + 1⟩ L[k] = [] → Y [.int .i64 ((k + 1 : Nat) : Int)] hh := fun he => hY (t - 1) _ _ (by omega) ⟨k + 1, z, by omega, rfl, by rw [er, he, List.append_nil]; exact o⟩
  have more : ∀ m : zbz, zkv ⟨a, b + 1⟩ L[k] = [m.From, m.zel] → ∀ z' h', Owns h h' [.sl 1 z' ((zfh a b (L.take k)).map icl ++ [[.int .i64 m.From], [.int .i64 m.zel]]) [], .box (.ptr i7 0 0) [z']] → Y [.int .i64 ((k + 1 : Nat) : Int)] h' := fun m he z' h' o' => hY (t - 1) _ _ (by omega) ⟨k + 1, z', by omega, rfl, by rw [er, he, List.map_append]; exact o'⟩
  rw [eo] at stay more
  generalize meet ⟨(L[k]).From, (L[k]).zel⟩ ⟨a, b + 1⟩ = mm at stay more ⊢
  obtain ⟨m, ok⟩ := mm
  cases ok with
  | false =>
   simp -dsimp [add1 (show k < 4611686018427387904 by omega)]
   exact stay rfl
  | true =>
   simp -dsimp [ld]
   intro i38 h38
   have o5 := o.grow (zgo (zex [AVal.int .i64 m.From, .int .i64 m.zel]) h38)
   refine o5.appW 0 rfl (M := [[.int .i64 m.From], [.int .i64 m.zel]]) (R' := []) (SlX.lit (zbh ..) (by simp) rfl (by simp) (by simp)) (by omega) (by simp; omega) (by simp [maxLen]; omega) fun z' h6 o6 _ => ?_
   refine o6.znt 1 (off := 0) rfl (o6.slAt 0 rfl).zd1 (by simp) fun h8 o8 _ => ?_
   simp -dsimp only [add1 (show k < 4611686018427387904 by omega), B.ze]
   exact more m rfl z' h8 o8
 ·rw [decide_eq_false_iff_not] at hb
  have hk : k = L.length := by omega
  subst hk
  rw [List.take_length] at o hrl
  simp -dsimp only [zcp.k1, B.zic, ld, B.ze]
  have op : Owns h hh ([.box (.ptr i7 0 0) [z]] ++ [.sl 1 z ((zfh a b L).map icl) []]) := o.perm (List.Perm.swap _ _ _)
  obtain ⟨ob, os⟩ := op.out
  have box : ∀ {h' : za} {l : List Ob}, Owns (hh.zk8 [.sl 1 z ((zfh a b L).map icl) []]) h' l → A.ldv h' (.ptr i7 0 0) = some z := fun o' => by
   obtain ⟨_, e, hb⟩ := ob.zhu 0 rfl
   cases e
   rw [zfs (o'.le _ _ hb)]; rfl
  refine s2 _ _ _ _ _ _ os (by omega) fun h4 S hp hs o4 => ?_
  simp -dsimp only [B.zic, box o4, B.ze]
  refine s3 _ _ _ _ _ _ o4 (by rw [hp.length_eq]; omega) fun y h5 R' o5 => ?_
  have oj := ob.join o5
  refine oj.znt 0 (off := 0) rfl (o5.slAt 0 rfl).zd1 (by simp) fun h6 o6 _ => ?_
  exact zba (hq _ y S R' h6 hp hs o6)
end Go.Ab
namespace Go.Ab
variable {C : CSem} {N : Nat → Nat}
def zml (S : List Int) : List (List AVal) := (S.zip S.tail).map fun p => [.int .i64 p.1, .int .i64 p.2]
theorem zs3 {S : List Int} {k : Nat} (hk : k + 1 < S.length) : (zml S)[k]? = some [.int .i64 S[k], .int .i64 S[k + 1]] := by
 unfold zml
 rw [List.getElem?_map, List.getElem?_eq_getElem (by simp; omega)]
 simp
theorem zlv (S : List Int) : (zml S).length = S.length - 1 := by
 unfold zml
 simp
theorem zci.iter (hC : zdb C) (i : zci.Imp C N) {p z : AVal} {S : List Int} {R : List (List AVal)} (hl : S.length ≤ 100000000) : Iter C (N 337) [] [p] (fun h => A.ldv h p = some z ∧ SlX h 1 z (S.map icl) R) (zml S) := by
 intro id I Z h Q hD hr h0 hend hZ
 refine i (.yld id) p h Q ?_
 obtain ⟨d1, d2⟩ := hD 0 h h0
 have el := d2.zcj
 rw [List.length_map] at el
 have es : V.bin .sub (.int .i64 (S.length : Int)) (.int .i64 1) = some (.int .i64 ((S.length : Int) - 1)) := by rw [V.zf3, wrap_i64 (by omega) (by omega)]
 simp -dsimp only [zci.cps, zci.k3, B.zic, d1, el, es, B.ze]
 refine zm.intro (fun t vs hh => ∃ k : Nat, k + t = (zml S).length ∧ vs = [.int .i64 (k : Int)] ∧ I k hh) (zml S).length ?_ ⟨0, by omega, rfl, h0⟩
 rintro Y t vs hh ⟨k, hkt, rfl, hI⟩ hY
 rw [zlv] at hkt
 obtain ⟨d1, d2⟩ := hD k hh hI
 simp -dsimp only [zci.l2, zci.k1, V.zfx, B.ze]
 refine B.zk (fun hb => ?_) (fun hb => ?_)
 ·have hb : k + 1 < S.length := by simp at hb; omega
  have g1 : (S.map icl)[k]? = some (icl S[k]) := by rw [List.getElem?_map, List.getElem?_eq_getElem (by omega)]; rfl
  have g2 : (S.map icl)[k + 1]? = some (icl S[k + 1]) := by rw [List.getElem?_map, List.getElem?_eq_getElem hb]; rfl
  have i1 : V.idxS 1 z (.int .i64 (k : Int)) = some (elp 1 z k 0) := d2.idxN (by simp; omega)
  have i2 : V.idxS 1 z (.int .i64 ((k + 1 : Nat) : Int)) = some (elp 1 z (k + 1) 0) := d2.idxN (by simpa using hb)
  have c1 := d2.cell g1
  have c2 := d2.cell g2
  simp -dsimp only [B.zic, d1, i1, c1, add1 (show k < 4611686018427387904 by omega), i2, c2, B.ze, B.callv_yld]
  refine hC _ _ _ _ _ (fun v h' hv => ?_) (hr k _ hh (zs3 hb) hI)
  rcases hv with ⟨e, h1⟩ | ⟨e, h1⟩
  ·simp -dsimp only [e, V.zf7, Bool.not_true, B.cond_false, add1 (show k < 4611686018427387904 by omega), B.ze]
   exact hY (t - 1) _ _ (by omega) ⟨k + 1, by rw [zlv]; omega, rfl, h1⟩
  ·simp -dsimp only [e, V.zf7, Bool.not_false, B.cond_true, B.ze]
   exact zba (hZ h' h1)
 ·have hb : ¬ k + 1 < S.length := by simp at hb; omega
  have : k = (zml S).length := by rw [zlv]; omega
  exact zba (hend hh (by rw [← this]; exact hI))
end Go.Ab
namespace Go.Ab
variable {C : CSem} {N : Nat → Nat}
theorem zsw : ∀ {S T : List Int}, S.Perm T → S.Pairwise (fun s t => s ≤ t) → T.Pairwise (fun s t => s ≤ t) → S = T
 | [], T, hp, _, _ => by rw [List.Perm.nil_eq hp]
 | a :: S, [], hp, _, _ => by have := hp.length_eq; simp at this
 | a :: S, b :: T, hp, h1, h2 => by
  rw [List.pairwise_cons] at h1 h2
  have e : a = b := by
   have m1 : a ∈ b :: T := hp.subset (List.mem_cons_self ..)
   have m2 : b ∈ a :: S := hp.symm.subset (List.mem_cons_self ..)
   rcases List.mem_cons.1 m1 with e | m1
   ·exact e
   ·rcases List.mem_cons.1 m2 with e | m2
    ·exact e.symm
    ·have := h1.1 b m2; have := h2.1 a m1; omega
  subst e
  rw [zsw (List.perm_cons a |>.1 hp) h1.2 h2.2]
def insI (a : Int) : List Int → List Int
 | [] => [a]
 | b :: r => if a ≤ b then a :: b :: r else b :: insI a r
def sortI : List Int → List Int
 | [] => []
 | a :: r => insI a (sortI r)
theorem zrw (a : Int) : ∀ l, (insI a l).Perm (a :: l)
 | [] => .refl _
 | b :: r => by
  unfold insI
  split
  ·exact .refl _
  ·exact ((zrw a r).cons b).trans (.swap ..)
theorem zj3 : ∀ l, (sortI l).Perm l
 | [] => .refl _
 | a :: r => (zrw a _).trans ((zj3 r).cons a)
theorem zrv {a : Int} : ∀ {l : List Int}, l.Pairwise (fun s t => s ≤ t) → (insI a l).Pairwise (fun s t => s ≤ t)
 | [], _ => List.pairwise_singleton _ _
 | b :: r, h => by
  have h' := h
  rw [List.pairwise_cons] at h
  unfold insI
  split
  ·rename_i hab
   refine List.pairwise_cons.2 ⟨fun c hc => ?_, h'⟩
   rcases List.mem_cons.1 hc with rfl | hc
   ·exact hab
   ·have := h.1 c hc; omega
  ·rename_i hab
   refine List.pairwise_cons.2 ⟨fun c hc => ?_, zrv h.2⟩
   rcases List.mem_cons.1 ((zrw a r).subset hc) with rfl | hc
   ·omega
   ·exact h.1 c hc
theorem zlc : ∀ l, (sortI l).Pairwise (fun s t => s ≤ t)
 | [] => .nil
 | a :: r => zrv (zlc r)
theorem sortI_of {S T : List Int} (hp : S.Perm T) (hs : S.Pairwise (fun s t => s ≤ t)) : S = sortI T := zsw (hp.trans (zj3 T).symm) hs (zlc T)
def cuts (a b : Int) (L : List Lot) : List Int := zev (sortI (zfh a b L))
def zq9 (L : List Lot) (W : List Want) (M : List Part) (a b : Int) : List (List AVal) :=
 if min b 4000 < max a 0 then [] else ((cuts (max a 0) (min b 4000) L).zip (cuts (max a 0) (min b 4000) L).tail).map fun p => [.agg [.int .i64 p.1, .int .i64 p.2], .bool (zff L (zdf W M p.1)).isSome]
def zdp.Spec (C : CSem) (N : Nat → Nat) : Prop := ∀ (x y z : AVal) (a b : Int) (h : za) (Q : AVal → za → Prop), x.zd1 = true → y.zd1 = true → z.zd1 = true →
 (∀ p8 p9 p5 p6 p7 h', Owns h h' [.box p5 [x], .box p6 [y], .box p7 [z], .box p8 [.int .i64 a], .box p9 [.int .i64 b]] → Q (.fn (N 332) [] [p8, p9, p5, p6, p7]) h') → C (N 330) [x, y, z, .int .i64 a, .int .i64 b] h Q
theorem zdp.spec (i : zdp.Imp C N) : zdp.Spec C N := by
 intro x y z a b h Q hx hy hz hq
 apply i
 have c1 : ∀ {v : AVal}, v.zd1 = true → A.zh8 v = some [v] := fun hv => by simp [A.zh8, hv]
 simp -dsimp only [zdp.cps, zdp.k1, c1 hx]
 intro i5 h5
 have o5 := (Owns.start h).zj9 h5 [x]
 simp -dsimp only [c1 hy]
 intro i6 h6
 have o6 := o5.zj9 h6 [y]
 simp -dsimp only [c1 hz]
 intro i7 h7
 have o7 := o6.zj9 h7 [z]
 simp -dsimp only [c1 (show (AVal.int .i64 a).zd1 = true from rfl)]
 intro i8 h8
 have o8 := o7.zj9 h8 [.int .i64 a]
 simp -dsimp only [c1 (show (AVal.int .i64 b).zd1 = true from rfl)]
 intro i9 h9
 have o9 := o8.zj9 h9 [.int .i64 b]
 exact zba (hq _ _ _ _ _ _ o9)
end Go.Ab
namespace Go.Ab
variable {C : CSem} {N : Nat → Nat}
structure zqf (p8 p9 p5 p6 p7 x y z : AVal) (a b : Int) (L : List Lot) (W : List Want) (M : List Part) (R S T : List (List AVal)) (h : za) : Prop where
 from_ : A.ldv h p8 = some (.int .i64 a)
 to_ : A.ldv h p9 = some (.int .i64 b)
 ldx : A.ldv h p5 = some x
 ldy : A.ldv h p6 = some y
 ldz : A.ldv h p7 = some z
 lots : SlX h 6 x (L.map Lot.cs) R
 wants : SlX h 3 y (W.map Want.cs) S
 parts : SlX h 2 z (M.map Part.cs) T
 none_ : ∀ id b, foot y = some id → h id = some b → b.own = false
theorem zqf.mono {p8 p9 p5 p6 p7 x y z : AVal} {a b : Int} {L : List Lot} {W : List Want} {M : List Part} {R S T : List (List AVal)} {h h' : za} (d : zqf p8 p9 p5 p6 p7 x y z a b L W M R S T h) (hle : h.le h') : zqf p8 p9 p5 p6 p7 x y z a b L W M R S T h' :=
 ⟨zmp hle d.from_, zmp hle d.to_, zmp hle d.ldx, zmp hle d.ldy, zmp hle d.ldz, d.lots.mono hle, d.wants.mono hle, d.parts.mono hle, fun id b hf hb => by
  obtain ⟨c, hc⟩ := d.wants.known hf
  rw [hle id c hc] at hb
  cases hb
  exact d.none_ id b hf hc⟩
theorem zbo.iter (hG : zsg C) (i : zbo.Imp C N) (s1 : zcp.Spec C N) (i1 : zci.Imp C N) (s2 : zdq.Spec C N) {p8 p9 p5 p6 p7 x y z : AVal} {a b : Int} {L : List Lot} {W : List Want} {M : List Part} {R S T : List (List AVal)}
  (hl1 : L.length ≤ 1000000) (hl2 : W.length + M.length ≤ 100000000) : Iter C (N 332) [] [p8, p9, p5, p6, p7] (zqf p8 p9 p5 p6 p7 x y z a b L W M R S T) (zq9 L W M a b) := by
 intro id I Z h Q hD hr h0 hend hZ
 refine i (.yld id) p8 p9 p5 p6 p7 h Q ?_
 have d := hD 0 h h0
 simp -dsimp only [zbo.cps, show A.zh8 (.yld id) = some [.yld id] from rfl]
 intro i6 h6
 have o := (Owns.start h).zj9 h6 [.yld id]
 have d1 := d.mono o.le
 have hmx : V.max2 (.int .i64 a) (.int .i64 0) = some (.int .i64 (max a 0)) := by simp [V.max2]; omega
 have hmn : V.min2 (.int .i64 b) (.int .i64 4000) = some (.int .i64 (min b 4000)) := by simp [V.min2]; omega
 simp -dsimp only [zbo.k4, B.zic, d1.from_, d1.to_, hmx, hmn, V.zsc, B.ze]
 refine B.zk (fun hb => ?_) (fun hb => ?_)
 ·have hb : min b 4000 < max a 0 := by simpa using hb
  refine zk5 o.le (hend h ?_)
  unfold zq9
  rw [if_pos hb]
  exact h0
 ·have hb : ¬ min b 4000 < max a 0 := by simpa using hb
  simp -dsimp only [zbo.k3, B.zic, d1.ldx, B.ze]
  refine s1 _ _ _ _ _ _ _ d1.lots hl1 (by omega) (by omega) fun p7' z' S' R' h2 hp hs o2 => ?_
  rw [sortI_of hp hs] at o2
  have hx : zq9 L W M a b = ((cuts (max a 0) (min b 4000) L).zip (cuts (max a 0) (min b 4000) L).tail).map fun p => [.agg [.int .i64 p.1, .int .i64 p.2], .bool (zff L (zdf W M p.1)).isSome] := by unfold zq9; rw [if_neg hb]
  have hUl : (cuts (max a 0) (min b 4000) L).length ≤ 100000000 := by
   unfold cuts
   have q1 := zlm (sortI (zfh (max a 0) (min b 4000) L))
   have q2 := (zj3 (zfh (max a 0) (min b 4000) L)).length_eq
   have q3 := zns (max a 0) (min b 4000) L
   omega
  have o2 : Owns (upd h i6 (zex [.yld id])) h2 [.box p7' [z'], .sl 1 z' ((cuts (max a 0) (min b 4000) L).map icl) R'] := o2
  have oo := o.join o2
  rw [hx] at hr hend
  generalize cuts (max a 0) (min b 4000) L = U at *
  refine zo6 (zci.iter hG.mono i1 (p := p7') (z := z') (S := U) (R := R') hUl) (fun h h' hle hd => ⟨zmp hle hd.1, hd.2.mono hle⟩)
   (fun k hh => ∃ g : za, I k g ∧ Owns g hh [.box (.ptr i6 0 0) [.yld id], .box p7' [z'], .sl 1 z' (U.map icl) R']) (fun j hh => j = 0 ∧ ∃ g : za, Z g ∧ g.le hh) ?_ ?_ ⟨h, h0, oo⟩ ?_ ?_
  ·rintro k hh ⟨g, hI, og⟩
   obtain ⟨q, e, hb'⟩ := og.zhu 1 rfl
   exact ⟨by rw [e, zfs hb']; rfl, og.slAt 2 rfl⟩
  ·rintro k xx hh E hxx ⟨g, hI, og⟩ hE0 hE1
   have hk : k + 1 < U.length := by
    have := (List.getElem?_eq_some_iff.1 hxx).1
    rw [zlv] at this; omega
   rw [zs3 hk] at hxx
   cases hxx
   have dd := (hD k g hI).mono og.le
   obtain ⟨q, e6, hb6⟩ := og.zhu 0 rfl
   cases e6
   have ly : A.ldv hh (.ptr i6 0 0) = some (.yld id) := by rw [zfs hb6]; rfl
   have hxk : ((U.zip U.tail).map fun p => [AVal.agg [.int .i64 p.1, .int .i64 p.2], .bool (zff L (zdf W M p.1)).isSome])[k]? = some [.agg [.int .i64 U[k], .int .i64 U[k + 1]], .bool (zff L (zdf W M U[k])).isSome] := by
    rw [List.getElem?_map, List.getElem?_eq_getElem (by simp; omega)]; simp
   have hy := hr k _ g hxk hI
   simp -dsimp only [W2, zbo.r2, zbo.k1, B.zic, ly, dd.ldx, dd.ldy, dd.ldz, B.ze]
   simp -dsimp [ly, dd.ldx, dd.ldy, dd.ldz]
   refine s2 _ _ _ _ _ _ _ _ _ _ _ _ dd.lots dd.wants dd.parts dd.none_ (by omega) hl2 (keepS1 ⟨_, ly⟩ ?_)
   rw [B.callv_yld]
   refine og.frame hG hy fun v g' hh' hv og' => ?_
   rcases hv with ⟨e, h1⟩ | ⟨e, h1⟩
   ·simp -dsimp only [e, V.zf7, Bool.not_true, B.cond_false, B.ze]
    exact hE0 hh' ⟨g', h1, og'⟩
   ·simp -dsimp only [e, V.zf7, Bool.not_false, B.cond_true, B.ze]
    exact hE1 0 hh' ⟨rfl, g', h1, og'.le⟩
  ·rintro hh ⟨g, hI, og⟩
   refine RK.here (zk5 og.le (hend g ?_))
   have : (zml U).length = ((U.zip U.tail).map fun p => [AVal.agg [.int .i64 p.1, .int .i64 p.2], .bool (zff L (zdf W M p.1)).isSome]).length := by simp [zml]
   rw [← this]; exact hI
  ·rintro j hh ⟨rfl, g, hz, hle⟩
   exact RK.there (RK.here (zk5 hle (hZ g hz)))
end Go.Ab
namespace Go.Ab
variable {C : CSem} {N : Nat → Nat}
def zgp (a b : Int) (L : List Lot) : List (Int × Int) := if min b 4000 < max a 0 then [] else (cuts (max a 0) (min b 4000) L).zip (cuts (max a 0) (min b 4000) L).tail
def zfc (L : List Lot) (W : List Want) (M : List Part) (d : Int) : Bool := (zff L (zdf W M d)).isSome
theorem zny (L : List Lot) (W : List Want) (M : List Part) (a b : Int) : zq9 L W M a b = (zgp a b L).map fun p => [.agg [.int .i64 p.1, .int .i64 p.2], .bool (zfc L W M p.1)] := by
 unfold zq9 zgp
 split <;> rfl
def zor (L : List Lot) (W : List Want) (M : List Part) (a b : Int) : Int × Bool := match (zgp a b L).find? fun p => zfc L W M p.1 with
 | some p => (p.1, true)
 | none => (0, false)
def zdk.Spec (C : CSem) (N : Nat → Nat) : Prop := ∀ (x y z : AVal) (L : List Lot) (W : List Want) (M : List Part) (R S T : List (List AVal)) (a b : Int) (h : za) (Q : AVal → za → Prop), SlX h 6 x (L.map Lot.cs) R → SlX h 3 y (W.map Want.cs) S → SlX h 2 z (M.map Part.cs) T →
 (∀ id b, foot y = some id → h id = some b → b.own = false) → L.length ≤ 1000000 → W.length + M.length ≤ 100000000 → Q (.tup [.int .i64 (zor L W M a b).1, .bool (zor L W M a b).2]) h → C (N 320) [x, y, z, .int .i64 a, .int .i64 b] h Q
theorem zdk.spec (i : zdk.Imp C N) (hG : zsg C) (s0 : zdp.Spec C N) (i1 : zbo.Imp C N) (s1 : zcp.Spec C N) (i2 : zci.Imp C N) (s2 : zdq.Spec C N) : zdk.Spec C N := by
 intro x y z L W M R S T a b h Q hx hy hz hno hl1 hl2 hq
 apply i
 simp -dsimp only [zdk.cps]
 intro i10 h10
 have o1 := (Owns.start h).zj9 h10 [.int .i64 0]
 intro i11 h11
 have o2 := o1.zj9 h11 [.bool false]
 simp -dsimp only [zdk.k3]
 refine s0 _ _ _ _ _ _ _ hx.zd1 hy.zd1 hz.zd1 fun p8 p9 p5 p6 p7 h3 o3 => ?_
 have oo := o2.join o3
 have dAt : ∀ {hh : za} {u v : AVal}, Owns h hh [.box (.ptr i10 0 0) [u], .box (.ptr i11 0 0) [v], .box p5 [x], .box p6 [y], .box p7 [z], .box p8 [.int .i64 a], .box p9 [.int .i64 b]] → zqf p8 p9 p5 p6 p7 x y z a b L W M R S T hh := fun {hh u v} o => by
  have bx : ∀ {k : Nat} {p w : AVal}, ([.box (.ptr i10 0 0) [u], .box (.ptr i11 0 0) [v], .box p5 [x], .box p6 [y], .box p7 [z], .box p8 [.int .i64 a], .box p9 [.int .i64 b]] : List Ob)[k]? = some (.box p [w]) → A.ldv hh p = some w := fun hk => by
   obtain ⟨id, rfl, hb⟩ := o.zhu _ hk
   rw [zfs hb]; rfl
  exact ⟨bx (k := 5) rfl, bx (k := 6) rfl, bx (k := 2) rfl, bx (k := 3) rfl, bx (k := 4) rfl, hx.mono o.le, hy.mono o.le, hz.mono o.le, fun id c hf hc => by
   obtain ⟨c', hc'⟩ := hy.known hf
   rw [o.le id c' hc'] at hc
   cases hc
   exact hno id c hf hc'⟩
 have ret : ∀ {hh : za} {u v : AVal}, Owns h hh [.box (.ptr i10 0 0) [u], .box (.ptr i11 0 0) [v], .box p5 [x], .box p6 [y], .box p7 [z], .box p8 [.int .i64 a], .box p9 [.int .i64 b]] → Q (.tup [u, v]) h → B.pv (oneOf (zfe (A.ldv hh (.ptr i10 0 0)) (zfe (A.ldv hh (.ptr i11 0 0)) (some [])))) fun v => dn Q v hh := fun {hh u v} o hq => by
  obtain ⟨_, e1, b1⟩ := o.zhu 0 rfl
  obtain ⟨_, e2, b2⟩ := o.zhu 1 rfl
  cases e1; cases e2
  have l1 : A.ldv hh (.ptr i10 0 0) = some u := by rw [zfs b1]; rfl
  have l2 : A.ldv hh (.ptr i11 0 0) = some v := by rw [zfs b2]; rfl
  rw [l1, l2]
  exact zk5 o.le hq
 refine zo6 (zbo.iter hG i1 s1 i2 s2 hl1 hl2) (fun h h' hle d => zqf.mono d hle)
  (fun k hh => Owns h hh [.box (.ptr i10 0 0) [.int .i64 0], .box (.ptr i11 0 0) [.bool false], .box p5 [x], .box p6 [y], .box p7 [z], .box p8 [.int .i64 a], .box p9 [.int .i64 b]] ∧ ∀ j < k, ∀ p, (zgp a b L)[j]? = some p → zfc L W M p.1 = false)
  (fun j hh => j = 0 ∧ ∃ n, zor L W M a b = (n, true) ∧ Owns h hh [.box (.ptr i10 0 0) [.int .i64 n], .box (.ptr i11 0 0) [.bool true], .box p5 [x], .box p6 [y], .box p7 [z], .box p8 [.int .i64 a], .box p9 [.int .i64 b]]) (fun k hh hj => dAt hj.1) ?_ ⟨oo, fun j hj => absurd hj (by omega)⟩ ?_ ?_
 ·rintro k xx hh E hxx ⟨o, hn⟩ hE0 hE1
  rw [zny, List.getElem?_map] at hxx
  cases hp : (zgp a b L)[k]? with
  | none => rw [hp] at hxx; cases hxx
  | some p =>
  rw [hp] at hxx
  cases hxx
  simp -dsimp [W2, zdk.r2, zdk.k1]
  have f1 : V.zbu 0 (.agg [.int .i64 p.1, .int .i64 p.2]) = some (.int .i64 p.1) := rfl
  refine B.zk (fun hb => ?_) (fun hb => ?_)
  ·simp -dsimp only [f1, B.al, A.al, B.ze]
   refine o.znt 0 (off := 0) rfl rfl (by simp) fun h4 o4 _ => ?_
   refine o4.znt 1 (off := 0) rfl rfl (by simp) fun h5 o5 _ => ?_
   refine hE1 0 h5 ⟨rfl, p.1, ?_, o5⟩
   have hfind : (zgp a b L).find? (fun p => zfc L W M p.1) = some p := by
    rw [List.find?_eq_some_iff_getElem]
    refine ⟨hb, k, (List.getElem?_eq_some_iff.1 hp).1, (List.getElem?_eq_some_iff.1 hp).2, fun j hj => ?_⟩
    have := hn j hj _ (List.getElem?_eq_getElem (by have := (List.getElem?_eq_some_iff.1 hp).1; omega))
    simp [this]
   unfold zor
   rw [hfind]
  ·refine hE0 hh ⟨o, fun j hj q hq' => ?_⟩
   rcases Nat.lt_succ_iff_lt_or_eq.1 hj with h | rfl
   ·exact hn j h q hq'
   ·rw [hp] at hq'; cases hq'; exact hb
 ·rintro hh ⟨o, hn⟩
  refine RK.here ?_
  have hd : zor L W M a b = (0, false) := by
   unfold zor
   rw [List.find?_eq_none.2 fun p hp => ?_]
   obtain ⟨j, hj, e⟩ := List.mem_iff_getElem.1 hp
   have := hn j (by rw [zny, List.length_map]; exact hj) p (by rw [List.getElem?_eq_getElem hj, e])
   simp [this]
  rw [hd] at hq
  refine o.znt 0 (off := 0) rfl rfl (by simp) fun h4 o4 _ => ?_
  refine o4.znt 1 (off := 0) rfl rfl (by simp) fun h5 o5 _ => ?_
  exact ret o5 hq
 ·rintro j hh ⟨rfl, n, hd, o⟩
  rw [hd] at hq
  exact RK.there (RK.here (ret o hq))
end Go.Ab
namespace Go.Ab
variable {C : CSem} {N : Nat → Nat}
def zfk (L : List Lot) (W : List Want) (M : List Part) (l : List (Int × Int)) : List zbz := (l.filter fun p => zfc L W M p.1).map fun p => ⟨p.1, p.2⟩
theorem spanL_len {a b : Int} {L : List Lot} (hl : L.length ≤ 1000000) : (zgp a b L).length ≤ 3000000 := by
 unfold zgp
 split
 ·simp
 ·have q1 := zlm (sortI (zfh (max a 0) (min b 4000) L))
  have q2 := (zj3 (zfh (max a 0) (min b 4000) L)).length_eq
  have q3 := zns (max a 0) (min b 4000) L
  unfold cuts
  simp
  omega
def zc2.Spec (C : CSem) (N : Nat → Nat) : Prop := ∀ (x y z : AVal) (L : List Lot) (W : List Want) (M : List Part) (R S T : List (List AVal)) (a b : Int) (h : za) (Q : AVal → za → Prop), SlX h 6 x (L.map Lot.cs) R → SlX h 3 y (W.map Want.cs) S → SlX h 2 z (M.map Part.cs) T →
 (∀ id b, foot y = some id → h id = some b → b.own = false) → L.length ≤ 1000000 → W.length + M.length ≤ 100000000 → (∀ v h', Owns h h' [.sl 2 v ((rows (zfk L W M (zgp a b L))).map zbz.cs) []] → Q v h') → C (N 322) [x, y, z, .int .i64 a, .int .i64 b] h Q
theorem zc2.spec (i : zc2.Imp C N) (hG : zsg C) (s0 : zdp.Spec C N) (i1 : zbo.Imp C N) (s1 : zcp.Spec C N) (i2 : zci.Imp C N) (s2 : zdq.Spec C N) (s3 : zb6.Spec C N) : zc2.Spec C N := by
 intro x y z L W M R S T a b h Q hx hy hz hno hl1 hl2 hq
 apply i
 have hsl := spanL_len (a := a) (b := b) hl1
 simp -dsimp only [zc2.cps]
 intro i11 h11
 have o1 := (Owns.start h).zj9 h11 [.nils]
 simp -dsimp only [zc2.k3]
 refine s0 _ _ _ _ _ _ _ hx.zd1 hy.zd1 hz.zd1 fun p8 p9 p5 p6 p7 h3 o3 => ?_
 have oo := (o1.join o3).nils 2
 have dAt : ∀ {hh : za} {u : AVal} {l : List Ob}, Owns h hh (.box (.ptr i11 0 0) [u] :: .box p5 [x] :: .box p6 [y] :: .box p7 [z] :: .box p8 [.int .i64 a] :: .box p9 [.int .i64 b] :: l) → zqf p8 p9 p5 p6 p7 x y z a b L W M R S T hh := fun {hh u l} o => by
  have bx : ∀ {k : Nat} {p w : AVal}, (Ob.box (.ptr i11 0 0) [u] :: .box p5 [x] :: .box p6 [y] :: .box p7 [z] :: .box p8 [.int .i64 a] :: .box p9 [.int .i64 b] :: l)[k]? = some (.box p [w]) → A.ldv hh p = some w := fun hk => by
   obtain ⟨id, rfl, hb⟩ := o.zhu _ hk
   rw [zfs hb]; rfl
  exact ⟨bx (k := 4) rfl, bx (k := 5) rfl, bx (k := 1) rfl, bx (k := 2) rfl, bx (k := 3) rfl, hx.mono o.le, hy.mono o.le, hz.mono o.le, fun id c hf hc => by
   obtain ⟨c', hc'⟩ := hy.known hf
   rw [o.le id c' hc'] at hc
   cases hc
   exact hno id c hf hc'⟩
 refine zo6 (zbo.iter hG i1 s1 i2 s2 hl1 hl2) (fun h h' hle d => zqf.mono d hle)
  (fun k hh => ∃ u, Owns h hh [.box (.ptr i11 0 0) [u], .box p5 [x], .box p6 [y], .box p7 [z], .box p8 [.int .i64 a], .box p9 [.int .i64 b], .sl 2 u ((zfk L W M ((zgp a b L).take k)).map zbz.cs) []])
  (fun j hh => False) (fun k hh ⟨u, hj⟩ => dAt hj) ?_ ⟨.nils, oo⟩ ?_ (fun _ _ h => h.elim)
 ·rintro k xx hh E hxx ⟨u, o⟩ hE0 hE1
  rw [zny, List.getElem?_map] at hxx
  cases hp : (zgp a b L)[k]? with
  | none => rw [hp] at hxx; cases hxx
  | some p =>
  rw [hp] at hxx
  cases hxx
  obtain ⟨_, e1, b1⟩ := o.zhu 0 rfl
  cases e1
  have l1 : A.ldv hh (.ptr i11 0 0) = some u := by rw [zfs b1]; rfl
  have et : (zgp a b L).take (k + 1) = (zgp a b L).take k ++ [p] := by rw [List.take_add_one, hp]; rfl
  have hlt : (zfk L W M ((zgp a b L).take k)).length ≤ 3000000 := by
   unfold zfk
   have := List.length_filter_le (fun p : Int × Int => zfc L W M p.1) ((zgp a b L).take k)
   simp at this ⊢; omega
  simp -dsimp [W2, zc2.r2, zc2.k1, l1]
  refine B.zk (fun hb => ?_) (fun hb => ?_)
  ·have this : (zfk L W M ((zgp a b L).take (k + 1))).map zbz.cs = (zfk L W M ((zgp a b L).take k)).map zbz.cs ++ [[.int .i64 p.1, .int .i64 p.2]] := by
    unfold zfk; rw [et, List.filter_append]; simp [hb]
   simp -dsimp [B.zic, l1]
   refine o.push (bytes := 16) 6 rfl (cs := [.int .i64 p.1, .int .i64 p.2]) rfl (by omega) (by rw [List.length_map]; omega) (by rw [List.length_map]; simp only [maxLen]; omega) fun u' h4 o4 _ => ?_
   have o4 : Owns h h4 [.box (.ptr i11 0 0) [u], .box p5 [x], .box p6 [y], .box p7 [z], .box p8 [.int .i64 a], .box p9 [.int .i64 b], .sl 2 u' ((zfk L W M ((zgp a b L).take k)).map zbz.cs ++ [[.int .i64 p.1, .int .i64 p.2]]) []] := o4
   refine o4.znt 0 (off := 0) rfl (o4.slAt 6 rfl).zd1 (by simp) fun h5 o5 _ => ?_
   exact hE0 h5 ⟨u', by rw [this]; exact o5⟩
  ·refine hE0 hh ⟨u, ?_⟩
   have : zfk L W M ((zgp a b L).take (k + 1)) = zfk L W M ((zgp a b L).take k) := by
    unfold zfk; rw [et, List.filter_append]; simp [hb]
   rw [this]; exact o
 ·rintro hh ⟨u, o⟩
  refine RK.here ?_
  obtain ⟨_, e1, b1⟩ := o.zhu 0 rfl
  cases e1
  have l1 : A.ldv hh (.ptr i11 0 0) = some u := by rw [zfs b1]; rfl
  simp -dsimp only [B.zic, l1, B.ze]
  have he : (zq9 L W M a b).length = (zgp a b L).length := by rw [zny, List.length_map]
  rw [he, List.take_length] at o
  have hlt : (zfk L W M (zgp a b L)).length ≤ 3000000 := by
   unfold zfk
   have := List.length_filter_le (fun p : Int × Int => zfc L W M p.1) (zgp a b L)
   simp at this ⊢; omega
  refine s3 _ _ _ _ _ (o.slAt 6 rfl) (by omega) fun v h' o' => zba (hq v h' (o'.back o.le))
end Go.Ab
namespace Go.Ab
structure CS where
 left : Lf
 need : Nat → Int
def wAt (W : List Want) (i : Nat) : Want := W.getD i ⟨[], 0, 0⟩
theorem ziv {W : List Want} {i : Nat} (h : i < W.length) : wAt W i = W[i] := by simp [wAt, h]
theorem wAt_out {W : List Want} {i : Nat} (h : W.length ≤ i) : wAt W i = ⟨[], 0, 0⟩ := by
 unfold wAt
 rw [List.getD_eq_getElem?_getD, List.getElem?_eq_none h]; rfl
def znh (L : List Lot) (i : Int) : Option Lot := L.find? fun l => decide (l.Id = i)
def chkOk (W : List Want) (s : CS) (u : Use) (l : Lot) : Bool :=
 decide (0 ≤ u.Want) && decide (u.Want < (W.length : Int)) && decide (1 ≤ u.Qty) && decide (u.Qty ≤ s.left l.Id) && decide (u.Qty ≤ s.need u.Want.toNat) && zfm l (wAt W u.Want.toNat)
def zid (s : CS) (u : Use) : CS := ⟨fun n => if n = u.Lot then s.left n - u.Qty else s.left n, fun i => if i = u.Want.toNat then s.need i - u.Qty else s.need i⟩
def zhd (L : List Lot) (W : List Want) : CS → List Use → Option CS
 | s, [] => some s
 | s, u :: us => match znh L u.Lot with
  | some l => bif chkOk W s u l then zhd L W (zid s u) us else none
  | none => none
def zew (L : List Lot) (W : List Want) : CS := ⟨znj L, fun i => (wAt W i).Qty⟩
def checks (L : List Lot) (W : List Want) (us : List Use) : Bool := zgs L W && match zhd L W (zew L W) us with
 | some s => (List.range W.length).all fun i => decide (s.need i = 0)
 | none => false
theorem zlf {L : List Lot} {i : Int} {l : Lot} (h : znh L i = some l) : l ∈ L ∧ l.Id = i := by
 have h1 := List.find?_some h
 exact ⟨List.mem_of_find?_eq_some h, by simpa using h1⟩
theorem lotById_of {L : List Lot} (hn : (L.map Lot.Id).Nodup) {l : Lot} (h : l ∈ L) : znh L l.Id = some l := by
 cases e : znh L l.Id with
 | none => unfold znh at e; rw [List.find?_eq_none] at e; have := e l h; simp at this
 | some a => have := zlf e; rw [zmq hn this.1 h this.2]
structure CSOk (s : CS) : Prop where
 left : LfOk s.left
 need : ∀ i, 0 ≤ s.need i
structure ChkF (W : List Want) (s : CS) (u : Use) (l : Lot) : Prop where
 w0 : 0 ≤ u.Want
 w1 : u.Want.toNat < W.length
 q : 1 ≤ u.Qty
 ql : u.Qty ≤ s.left l.Id
 qn : u.Qty ≤ s.need u.Want.toNat
 sv : zfm l (wAt W u.Want.toNat) = true
theorem chkOk_iff {W : List Want} {s : CS} {u : Use} {l : Lot} : chkOk W s u l = true ↔ ChkF W s u l := by
 simp only [chkOk, Bool.and_eq_true, decide_eq_true_eq]
 exact ⟨fun ⟨⟨⟨⟨⟨a, b⟩, c⟩, d⟩, e⟩, f⟩ => ⟨a, by omega, c, d, e, f⟩, fun ⟨a, b, c, d, e, f⟩ => ⟨⟨⟨⟨⟨a, by omega⟩, c⟩, d⟩, e⟩, f⟩⟩
theorem zkq {L : List Lot} {W : List Want} {s s' : CS} {u : Use} {us : List Use} (h : zhd L W s (u :: us) = some s') : ∃ l, l ∈ L ∧ l.Id = u.Lot ∧ ChkF W s u l ∧ zhd L W (zid s u) us = some s' := by
 unfold zhd at h
 cases e : znh L u.Lot with
 | none => rw [e] at h; cases h
 | some l =>
  rw [e] at h
  simp only at h
  cases c : chkOk W s u l with
  | false => rw [c] at h; cases h
  | true => rw [c] at h; exact ⟨l, (zlf e).1, (zlf e).2, chkOk_iff.1 c, h⟩
theorem chkStep_ok {W : List Want} {s : CS} {u : Use} {l : Lot} (hs : CSOk s) (hc : ChkF W s u l) (hl : l.Id = u.Lot) : CSOk (zid s u) := by
 refine ⟨fun n => ?_, fun i => ?_⟩ <;> unfold zid <;> simp only <;> split
 ·rename_i e; subst e; have := hc.ql; rw [hl] at this; omega
 ·exact hs.left n
 ·rename_i e; subst e; have := hc.qn; omega
 ·exact hs.need i
theorem zlo {L : List Lot} {W : List Want} : ∀ {us : List Use} {s s' : CS}, zhd L W s us = some s' → CSOk s → CSOk s'
 | [], s, s', h, hs => by cases h; exact hs
 | u :: us, s, s', h, hs => by
  obtain ⟨l, h1, h2, h3, h4⟩ := zkq h
  exact zlo h4 (chkStep_ok hs h3 h2)
theorem ztk {L : List Lot} {W : List Want} {vs : List Use} : ∀ {us : List Use} {s : CS}, zhd L W s (us ++ vs) = (zhd L W s us).bind fun s => zhd L W s vs
 | [], s => rfl
 | u :: us, s => by
  rw [List.cons_append]
  simp only [zhd]
  cases znh L u.Lot with
  | none => rfl
  | some l =>
   simp only
   cases chkOk W s u l
   ·rfl
   ·exact ztk
theorem chkRun_one {L : List Lot} {W : List Want} {s : CS} {u : Use} {l : Lot} (hn : (L.map Lot.Id).Nodup) (hl : l ∈ L) (he : l.Id = u.Lot) (hc : ChkF W s u l) : zhd L W s [u] = some (zid s u) := by
 simp only [zhd]
 rw [← he, lotById_of hn hl]
 simp only
 rw [chkOk_iff.2 hc]; rfl
theorem ziq {L : List Lot} {W : List Want} : ∀ {us : List Use} {s s' : CS}, zhd L W s us = some s' → ∀ u ∈ us, ∃ l, l ∈ L ∧ l.Id = u.Lot ∧ u.Want.toNat < W.length ∧ zfm l (wAt W u.Want.toNat) = true
 | [], s, s', h, u, hu => by cases hu
 | a :: us, s, s', h, u, hu => by
  obtain ⟨l, h1, h2, h3, h4⟩ := zkq h
  rcases List.mem_cons.1 hu with rfl | hu
  ·exact ⟨l, h1, h2, h3.w1, h3.sv⟩
  ·exact ziq h4 u hu
def sumF {α : Type} (f : α → Int) : List α → Int
 | [] => 0
 | a :: l => f a + sumF f l
theorem zha {α : Type} {f g : α → Int} : ∀ {l : List α}, (∀ a ∈ l, f a = g a) → sumF f l = sumF g l
 | [], _ => rfl
 | a :: l, h => by simp only [sumF]; rw [h a (by simp), zha fun b hb => h b (by simp [hb])]
theorem sumF_le {α : Type} {f g : α → Int} : ∀ {l : List α}, (∀ a ∈ l, f a ≤ g a) → sumF f l ≤ sumF g l
 | [], _ => Int.le_refl _
 | a :: l, h => by
  have h1 := h a (by simp)
  have h2 := sumF_le (l := l) fun b hb => h b (by simp [hb])
  simp only [sumF]; omega
theorem zk9 {α : Type} {f : α → Int} : ∀ {l : List α}, (∀ a ∈ l, f a = 0) → sumF f l = 0
 | [], _ => rfl
 | a :: l, h => by simp only [sumF]; rw [h a (by simp), zk9 fun b hb => h b (by simp [hb])]; rfl
theorem sumF_nn {α : Type} {f : α → Int} {l : List α} (h : ∀ a ∈ l, 0 ≤ f a) : 0 ≤ sumF f l := by
 have := sumF_le (f := fun _ => 0) (g := f) (l := l) h
 rw [zk9 fun _ _ => rfl] at this; exact this
theorem zqs {α : Type} {f g : α → Int} {a : α} {d : Int} : ∀ {l : List α}, l.Nodup → a ∈ l → (∀ b ∈ l, b ≠ a → f b = g b) → f a = g a + d → sumF f l = sumF g l + d
 | [], _, h, _, _ => by cases h
 | b :: l, hn, ha, ho, hd => by
  simp only [List.nodup_cons] at hn
  simp only [sumF]
  by_cases e : b = a
  ·subst e
   rw [hd, zha fun c hc => ho c (by simp [hc]) fun e => hn.1 (by rw [← e]; exact hc)]
   omega
  ·have ha' : a ∈ l := by rcases List.mem_cons.1 ha with h | h; exact absurd h.symm e; exact h
   rw [ho b (by simp) e, zqs hn.2 ha' (fun c hc => ho c (by simp [hc])) hd]
   omega
def nS (W : List Want) (S : Nat → Bool) (l : Lot) : Bool := (List.range W.length).any fun i => S i && zfm l (wAt W i)
def zk3 (W : List Want) (need : Nat → Int) (S : Nat → Bool) : Int := sumF (fun i => bif S i then need i else 0) (List.range W.length)
def zni (L : List Lot) (W : List Want) (left : Lf) (S : Nat → Bool) : Int := sumF (fun l => bif nS W S l then left l.Id else 0) L
def Hall (L : List Lot) (W : List Want) : Prop := ∀ S : Nat → Bool, zk3 W (zew L W).need S ≤ zni L W (zew L W).left S
theorem nS_of {W : List Want} {S : Nat → Bool} {l : Lot} {i : Nat} (hi : i < W.length) (hS : S i = true) (hs : zfm l (wAt W i) = true) : nS W S l = true := by
 unfold nS
 rw [List.any_eq_true]
 exact ⟨i, List.mem_range.2 hi, by rw [hS, hs]; rfl⟩
theorem zp0 {α β : Type} {f : α → β} : ∀ {l : List α}, (l.map f).Nodup → l.Nodup
 | [], _ => List.Pairwise.nil
 | a :: l, h => by
  simp only [List.map_cons, List.nodup_cons] at h
  exact List.nodup_cons.2 ⟨fun ha => h.1 (List.mem_map_of_mem ha), zp0 h.2⟩
theorem step_need {W : List Want} {s : CS} {u : Use} (S : Nat → Bool) (hu : u.Want.toNat < W.length) : zk3 W (zid s u).need S = zk3 W s.need S + (bif S u.Want.toNat then -u.Qty else 0) := by
 unfold zk3
 refine zqs (a := u.Want.toNat) List.nodup_range (List.mem_range.2 hu) (fun b _ hb => ?_) ?_
 ·simp [zid, hb]
 ·cases S u.Want.toNat <;> simp [zid]; omega
theorem step_left {L : List Lot} {W : List Want} {s : CS} {u : Use} {l : Lot} (S : Nat → Bool) (hn : (L.map Lot.Id).Nodup) (hl : l ∈ L) (he : l.Id = u.Lot) : zni L W (zid s u).left S = zni L W s.left S + (bif nS W S l then -u.Qty else 0) := by
 unfold zni
 refine zqs (a := l) (zp0 hn) hl (fun b hb hne => ?_) ?_
 ·have : b.Id ≠ u.Lot := fun e => hne (zmq hn hb hl (by rw [e, he]))
  simp [zid, this]
 ·cases nS W S l <;> simp [zid, he]; omega
theorem chk_phi {L : List Lot} {W : List Want} (hn : (L.map Lot.Id).Nodup) (S : Nat → Bool) : ∀ {us : List Use} {s s' : CS}, zhd L W s us = some s' → zk3 W s.need S - zni L W s.left S ≤ zk3 W s'.need S - zni L W s'.left S
 | [], s, s', h => by cases h; exact Int.le_refl _
 | u :: us, s, s', h => by
  obtain ⟨l, h1, h2, h3, h4⟩ := zkq h
  have ih := chk_phi hn S h4
  rw [step_need S h3.w1, step_left S hn h1 h2] at ih
  have := h3.q
  cases hS : S u.Want.toNat with
  | true => rw [nS_of h3.w1 hS h3.sv, hS] at ih; simp only [cond_true] at ih; omega
  | false =>
   rw [hS] at ih
   cases hm : nS W S l <;> rw [hm] at ih <;> simp only [cond_true, cond_false] at ih <;> omega
theorem ztj {L : List Lot} {W : List Want} (hn : (L.map Lot.Id).Nodup) (S : Nat → Bool) : ∀ {us : List Use} {s s' : CS}, zhd L W s us = some s' → (∀ u ∈ us, ∀ l ∈ L, l.Id = u.Lot → nS W S l = true → S u.Want.toNat = true) →
  zk3 W s.need S - zni L W s.left S = zk3 W s'.need S - zni L W s'.left S
 | [], s, s', h, _ => by cases h; rfl
 | u :: us, s, s', h, hx => by
  obtain ⟨l, h1, h2, h3, h4⟩ := zkq h
  have ih := ztj hn S h4 fun v hv => hx v (by simp [hv])
  rw [step_need S h3.w1, step_left S hn h1 h2] at ih
  cases hS : S u.Want.toNat with
  | true => rw [nS_of h3.w1 hS h3.sv, hS] at ih; simp only [cond_true] at ih; omega
  | false =>
   have hm : nS W S l = false := by
    cases hm : nS W S l with
    | false => rfl
    | true => have := hx u (by simp) l h1 h2 hm; rw [hS] at this; cases this
   rw [hS, hm] at ih
   simp only [cond_false] at ih; omega
theorem zke {L : List Lot} {W : List Want} (h : zgs L W = true) : CSOk (zew L W) := by
 obtain ⟨f1, f2, f3, f4, f5⟩ := zg7 h
 refine ⟨left0_ok f3, fun i => ?_⟩
 simp only [zew]
 by_cases hi : i < W.length
 ·rw [ziv hi]; have := zgc (f5 _ (List.getElem_mem hi)); omega
 ·rw [wAt_out (by omega)]; exact Int.le_refl _
theorem checks_hall {L : List Lot} {W : List Want} {us : List Use} (h : checks L W us = true) : zgs L W = true ∧ Hall L W := by
 unfold checks at h
 rw [Bool.and_eq_true] at h
 obtain ⟨hm, h⟩ := h
 refine ⟨hm, fun S => ?_⟩
 obtain ⟨f1, f2, f3, f4, f5⟩ := zg7 hm
 cases e : zhd L W (zew L W) us with
 | none => rw [e] at h; cases h
 | some s =>
  rw [e] at h
  simp only [List.all_eq_true, decide_eq_true_eq] at h
  have ok := zlo e (zke hm)
  have ph := chk_phi f4 S e
  have z : zk3 W s.need S = 0 := zk9 fun i hi => by rw [h i hi]; cases S i <;> rfl
  have nn : 0 ≤ zni L W s.left S := sumF_nn fun l _ => by
   cases nS W S l
   ·exact Int.le_refl _
   ·exact ok.left _
  omega
end Go.Ab
namespace Go.Ab
def bef (W : List Want) (i j : Nat) : Prop := (wAt W i).Day < (wAt W j).Day ∨ ((wAt W i).Day = (wAt W j).Day ∧ i < j)
theorem bef_of {W : List Want} {a b : Fin W.length} (h : before W a b) : bef W a.val b.val := by
 unfold bef before at *
 rw [ziv a.2, ziv b.2]; exact h
theorem bef_total {W : List Want} {i j : Nat} (h : i ≠ j) : bef W i j ∨ bef W j i := by unfold bef; omega
theorem bef_asym {W : List Want} {i j : Nat} (h : bef W i j) (k : bef W j i) : False := by unfold bef at *; omega
theorem bef_day {W : List Want} {i j : Nat} (h : i = j ∨ bef W i j) : (wAt W i).Day ≤ (wAt W j).Day := by
 rcases h with rfl | h
 ·exact Int.le_refl _
 ·unfold bef at h; omega
structure GInv (L : List Lot) (W : List Want) (lim : Nat → Prop) (cur : Nat → Int) (left : Lf) (out : List Use) : Prop where
 run : zhd L W (zew L W) out = some ⟨left, cur⟩
 E : ∀ u ∈ out, ∀ m ∈ L, ∀ m' ∈ L, m'.Id = u.Lot → zge m m' < 0 → zfm m (wAt W u.Want.toNat) = true → left m.Id = 0
 R : out.Pairwise fun u v => (∀ m ∈ L, ∀ m' ∈ L, m.Id = v.Lot → m'.Id = u.Lot → zge m m' < 0 → zfm m (wAt W u.Want.toNat) = true → False) ∧ (u.Want.toNat = v.Want.toNat ∨ bef W u.Want.toNat v.Want.toNat)
 M : ∀ u ∈ out, lim u.Want.toNat
theorem zeo {l : Lot} {w : Want} : zfm l w = true ↔ l.Item = w.Item ∧ zbz.has ⟨l.From, l.zel⟩ w.Day = true := by
 simp [zfm]
theorem GInv.step {L : List Lot} {W : List Want} (hn : (L.map Lot.Id).Nodup) (hstart : CSOk (zew L W)) {p : Nat} (hp : p < W.length) {lim : Nat → Prop} (hlim : lim p) (hlp : ∀ q, lim q → q = p ∨ bef W q p) {cur : Nat → Int} {st : FS5} {pre : List Lot} {l : Lot} (hl : l ∈ L) (hi : l.Item = (wAt W p).Item)
  (hpre : ∀ m ∈ L, m.Item = (wAt W p).Item → zge m l < 0 → m ∈ pre)
  (g : GInv L W lim (fun i => if i = p then st.need else cur i) st.left st.out) (hk : st.need = 0 ∨ ∀ m ∈ pre, zfm m (wAt W p) = true → st.left m.Id = 0) :
  GInv L W lim (fun i => if i = p then (zea (p : Int) (wAt W p) st l).need else cur i) (zea (p : Int) (wAt W p) st l).left (zea (p : Int) (wAt W p) st l).out ∧
  ((zea (p : Int) (wAt W p) st l).need = 0 ∨ ∀ m ∈ pre ++ [l], zfm m (wAt W p) = true → (zea (p : Int) (wAt W p) st l).left m.Id = 0) := by
 have ok := zlo g.run hstart
 have hneed : 0 ≤ st.need := by have := ok.need p; simpa using this
 have hok : FSOk st := ⟨ok.left, hneed⟩
 have tk := zh4 hok l
 by_cases hc : zej st l = 0 ∨ zbz.has ⟨l.From, l.zel⟩ (wAt W p).Day = false
 ·have e : zea (p : Int) (wAt W p) st l = st := by unfold zea; rw [if_pos hc]
  rw [e]
  refine ⟨g, ?_⟩
  by_cases h0 : st.need = 0
  ·exact .inl h0
  ·right
   intro m hm hs
   rcases List.mem_append.1 hm with hm | hm
   ·exact (hk.resolve_left h0) m hm hs
   ·rw [List.mem_singleton.1 hm] at hs ⊢
    rcases hc with hc | hc
    ·unfold zej at hc
     have := ok.left l.Id
     simp only at this
     omega
    ·rw [(zeo.1 hs).2] at hc; cases hc
 ·have e : zea (p : Int) (wAt W p) st l = ⟨fun n => if n = l.Id then st.left l.Id - zej st l else st.left n, st.need - zej st l, st.out ++ [⟨p, l.Id, zej st l⟩]⟩ := by unfold zea; rw [if_neg hc]
  have h1 : zej st l ≠ 0 := fun h => hc (.inl h)
  have h2 : zbz.has ⟨l.From, l.zel⟩ (wAt W p).Day = true := by
   cases h : zbz.has ⟨l.From, l.zel⟩ (wAt W p).Day
   ·exact absurd (.inr h) hc
   ·rfl
  have hsv : zfm l (wAt W p) = true := zeo.2 ⟨hi, h2⟩
  have hk' := hk.resolve_left (by omega)
  rw [e]
  refine ⟨⟨?_, ?_, ?_, ?_⟩, ?_⟩
  ·rw [ztk, g.run]
   simp only [Option.bind_some]
   rw [chkRun_one hn hl rfl ⟨by simp, by simpa using hp, by simp only; omega, by simp only; omega, by simp; omega, by simpa using hsv⟩]
   simp only [zid, Int.toNat_natCast]
   congr 2
   ·funext n; split
    ·rename_i e; subst e; rfl
    ·rfl
   ·funext i; split <;> rfl
  ·intro u hu m hm m' hm' hid hlt hs
   simp only
   split
   ·rename_i em
    have hml : m = l := zmq hn hm hl em
    subst hml
    rcases List.mem_append.1 hu with hu | hu
    ·have := g.E u hu m hm m' hm' hid hlt hs; omega
    ·rw [List.mem_singleton.1 hu] at hid
     have : m' = m := zmq hn hm' hl hid
     subst this
     have := lotW.irr m'
     unfold zch at this
     rw [decide_eq_false_iff_not] at this
     exact absurd hlt this
   ·rcases List.mem_append.1 hu with hu | hu
    ·exact g.E u hu m hm m' hm' hid hlt hs
    ·rw [List.mem_singleton.1 hu] at hid hs
     have : m' = l := zmq hn hm' hl hid
     subst this
     simp only [Int.toNat_natCast] at hs
     exact hk' m (hpre m hm (zeo.1 hs).1 hlt) hs
  ·rw [List.pairwise_append]
   refine ⟨g.R, List.pairwise_singleton _ _, fun u hu v hv => ?_⟩
   rw [List.mem_singleton.1 hv]
   refine ⟨fun m hm m' hm' h3 h4 h5 h6 => ?_, ?_⟩
   ·have hml : m = l := zmq hn hm hl h3
    subst hml
    have := g.E u hu m hm m' hm' h4 h5 h6; omega
   ·have := hlp _ (g.M u hu)
    simpa using this
  ·intro u hu
   rcases List.mem_append.1 hu with hu | hu
   ·exact g.M u hu
   ·rw [List.mem_singleton.1 hu]; simpa using hlim
  ·simp only
   by_cases h0 : st.need - zej st l = 0
   ·exact .inl h0
   ·right
    intro m hm hs
    split
    ·unfold zej at *; omega
    ·rcases List.mem_append.1 hm with hm | hm
     ·exact hk' m hm hs
     ·rename_i ne; rw [List.mem_singleton.1 hm] at ne; exact absurd rfl ne
theorem zj5 {L : List Lot} {w : Want} {m : Lot} : m ∈ rowOf L w ↔ m ∈ L ∧ m.Item = w.Item := by
 unfold rowOf
 rw [List.mem_filter, (zhj L).mem_iff]; simp
theorem rowOf_up (L : List Lot) (w : Want) : (rowOf L w).Pairwise fun a b => zch zge b a = false := (sortLots_up L).filter _
theorem GInv.row {L : List Lot} {W : List Want} (hn : (L.map Lot.Id).Nodup) (hstart : CSOk (zew L W)) {p : Nat} (hp : p < W.length) {lim : Nat → Prop} (hlim : lim p) (hlp : ∀ q, lim q → q = p ∨ bef W q p) {cur : Nat → Int} :
  ∀ (post pre : List Lot) {st : FS5}, pre ++ post = rowOf L (wAt W p) → GInv L W lim (fun i => if i = p then st.need else cur i) st.left st.out → (st.need = 0 ∨ ∀ m ∈ pre, zfm m (wAt W p) = true → st.left m.Id = 0) →
   GInv L W lim (fun i => if i = p then (post.foldl (zea (p : Int) (wAt W p)) st).need else cur i) (post.foldl (zea (p : Int) (wAt W p)) st).left (post.foldl (zea (p : Int) (wAt W p)) st).out ∧
   ((post.foldl (zea (p : Int) (wAt W p)) st).need = 0 ∨ ∀ m ∈ rowOf L (wAt W p), zfm m (wAt W p) = true → (post.foldl (zea (p : Int) (wAt W p)) st).left m.Id = 0)
 | [], pre, st, he, g, hk => by rw [List.append_nil] at he; rw [← he]; exact ⟨g, hk⟩
 | l :: post, pre, st, he, g, hk => by
  have hl : l ∈ rowOf L (wAt W p) := by rw [← he]; simp
  obtain ⟨hl1, hl2⟩ := zj5.1 hl
  have hs := g.step hn hstart hp hlim hlp hl1 hl2 (pre := pre) (fun m hm hi hlt => by
   have hm' : m ∈ rowOf L (wAt W p) := zj5.2 ⟨hm, hi⟩
   rw [← he] at hm'
   rcases List.mem_append.1 hm' with h | h
   ·exact h
   ·have hup := rowOf_up L (wAt W p)
    rw [← he, List.pairwise_append] at hup
    have := hup.2.1
    rcases List.mem_cons.1 h with rfl | h
    ·have := lotW.irr m
     unfold zch at this; rw [decide_eq_false_iff_not] at this
     exact absurd hlt this
    ·have := (List.pairwise_cons.1 this).1 m h
     unfold zch at this; rw [decide_eq_false_iff_not] at this
     exact absurd hlt this) hk
  exact GInv.row hn hstart hp hlim hlp post (pre ++ [l]) (by simpa using he) hs.1 hs.2
structure Stuck (L : List Lot) (W : List Want) (p : Nat) (cur : Nat → Int) (left : Lf) (out : List Use) : Prop where
 inv : GInv L W (fun q => q = p ∨ bef W q p) cur left out
 lt : p < W.length
 pos : 0 < cur p
 none_ : ∀ m ∈ L, zfm m (wAt W p) = true → left m.Id = 0
theorem zr5 {L : List Lot} {W : List Want} (hn : (L.map Lot.Id).Nodup) (hstart : CSOk (zew L W)) :
  ∀ (ps A : List (Fin W.length)) {left : Lf} {out : List Use}, A ++ ps = zbd W → GInv L W (fun q => ∃ a ∈ A, a.val = q) (fun i => if ∃ a ∈ A, a.val = i then 0 else (wAt W i).Qty) left out →
   (∀ us lf, zgt L W ps left out = some (us, lf) → ∃ cur, zhd L W (zew L W) us = some ⟨lf, cur⟩ ∧ ∀ i < W.length, cur i = 0) ∧
   (zgt L W ps left out = none → ∃ p cur lf us, Stuck L W p cur lf us)
 | [], A, left, out, he, g => by
  rw [List.append_nil] at he
  refine ⟨fun us lf h => ?_, fun h => by cases h⟩
  cases h
  refine ⟨_, g.run, fun i hi => ?_⟩
  rw [if_pos]
  exact ⟨⟨i, hi⟩, by rw [he]; exact zqb W _, rfl⟩
 | p :: ps, A, left, out, he, g => by
  have hup := zko W
  rw [← he, List.pairwise_append] at hup
  have hnp : ¬ ∃ a ∈ A, a.val = p.val := fun ⟨a, ha, e⟩ => by
   have := hup.2.2 a ha p (by simp)
   rw [Fin.ext e] at this
   exact zl8 W _ this
  have hw : wAt W p.val = W[p] := ziv p.2
  have hst := GInv.row hn hstart (p := p.val) p.2 (lim := fun q => (∃ a ∈ A, a.val = q) ∨ q = p.val) (.inr rfl) (fun q hq => by
   rcases hq with ⟨a, ha, rfl⟩ | rfl
   ·exact .inr (bef_of (hup.2.2 a ha p (by simp)))
   ·exact .inl rfl) (cur := fun i => if ∃ a ∈ A, a.val = i then 0 else (wAt W i).Qty) (rowOf L (wAt W p.val)) [] (st := ⟨left, W[p].Qty, out⟩) rfl (by
    have e : (fun i => if i = p.val then W[p].Qty else if ∃ a ∈ A, a.val = i then 0 else (wAt W i).Qty) = fun i => if ∃ a ∈ A, a.val = i then 0 else (wAt W i).Qty := by
     funext i
     by_cases ei : i = p.val
     ·subst ei; rw [if_pos rfl, if_neg hnp, hw]
     ·rw [if_neg ei]
    simp only at e ⊢
    rw [e]
    exact ⟨g.run, g.E, g.R, fun u hu => .inl (g.M u hu)⟩) (.inr (by simp))
  have efold : (rowOf L (wAt W p.val)).foldl (zea (p.val : Int) (wAt W p.val)) ⟨left, W[p].Qty, out⟩ = zfg L (p.val : Int) W[p] left out := by unfold zfg; rw [hw]
  rw [efold] at hst
  obtain ⟨g2, hk⟩ := hst
  have ok2 := zlo g2.run hstart
  have hn2 : 0 ≤ (zfg L (p.val : Int) W[p] left out).need := by have := ok2.need p.val; simpa using this
  by_cases hc : 0 < (zfg L (p.val : Int) W[p] left out).need
  ·refine ⟨fun us lf h => ?_, fun _ => ⟨p.val, fun i => if i = p.val then (zfg L (p.val : Int) W[p] left out).need else if ∃ a ∈ A, a.val = i then 0 else (wAt W i).Qty, (zfg L (p.val : Int) W[p] left out).left, (zfg L (p.val : Int) W[p] left out).out, ⟨?_, p.2, by simpa using hc, fun m hm hs => ?_⟩⟩⟩
   ·simp only [zgt, if_pos hc] at h; cases h
   ·exact ⟨g2.run, g2.E, g2.R, fun u hu => by
     rcases g2.M u hu with ⟨a, ha, e⟩ | e
     ·right; rw [← e]; exact bef_of (hup.2.2 a ha p (by simp))
     ·exact .inl e⟩
   ·rcases hk with hk | hk
    ·omega
    ·exact hk m (zj5.2 ⟨hm, (zeo.1 hs).1⟩) hs
  ·have ih := zr5 hn hstart ps (A ++ [p]) (left := (zfg L (p.val : Int) W[p] left out).left) (out := (zfg L (p.val : Int) W[p] left out).out) (by simpa using he) (by
    have e : (fun i => if i = p.val then (zfg L (p.val : Int) W[p] left out).need else if ∃ a ∈ A, a.val = i then 0 else (wAt W i).Qty) = fun i => if ∃ a ∈ A ++ [p], a.val = i then 0 else (wAt W i).Qty := by
     funext i
     by_cases ei : i = p.val
     ·subst ei; rw [if_pos rfl, if_pos ⟨p, by simp, rfl⟩]; omega
     ·rw [if_neg ei]
      by_cases ea : ∃ a ∈ A, a.val = i
      ·obtain ⟨a, ha, e⟩ := ea
       rw [if_pos ⟨a, ha, e⟩, if_pos ⟨a, by simp [ha], e⟩]
      ·rw [if_neg ea, if_neg]
       rintro ⟨a, ha, e⟩
       rcases List.mem_append.1 ha with ha | ha
       ·exact ea ⟨a, ha, e⟩
       ·rw [List.mem_singleton.1 ha] at e; exact ei e.symm
    rw [← e]
    exact ⟨g2.run, g2.E, g2.R, fun u hu => by
     rcases g2.M u hu with ⟨a, ha, e⟩ | e
     ·exact ⟨a, by simp [ha], e⟩
     ·exact ⟨p, by simp, e.symm⟩⟩)
   simp only [zgt, if_neg hc]
   exact ih
inductive Way (L : List Lot) (W : List Want) (P : Nat) (out : List Use) : Nat → Prop
 | base : Way L W P out P
 | step {p : Nat} {m : Lot} {u : Use} : Way L W P out p → m ∈ L → zfm m (wAt W p) = true → u ∈ out → u.Lot = m.Id → u.Want.toNat = p ∨ bef W u.Want.toNat p → Way L W P out u.Want.toNat
theorem has_of {l : Lot} {d d' : Int} {m : Lot} (h : zbz.has ⟨l.From, l.zel⟩ d = true) (hm : zbz.has ⟨m.From, m.zel⟩ d' = true) (hd : d ≤ d') (hu : ¬ zge l m < 0) : zbz.has ⟨l.From, l.zel⟩ d' = true := by
 simp only [zbz.has, Bool.and_eq_true, decide_eq_true_eq] at *
 rw [zhy] at hu
 refine ⟨⟨h.1.1, by omega⟩, by omega⟩
section
variable {L : List Lot} {W : List Want} {P : Nat} {cur : Nat → Int} {left : Lf} {out : List Use}
theorem Way.item (hn : (L.map Lot.Id).Nodup) (s : Stuck L W P cur left out) {q : Nat} (h : Way L W P out q) : (wAt W q).Item = (wAt W P).Item ∧ q < W.length := by
 induction h with
 | base => exact ⟨rfl, s.lt⟩
 | step w hm hs hu he hb ih =>
  obtain ⟨l, h1, h2, h3, h4⟩ := ziq s.inv.run _ hu
  have := zmq hn h1 hm (by rw [h2, he])
  subst this
  exact ⟨by rw [← ih.1, ← (zeo.1 h4).1, (zeo.1 hs).1], h3⟩
theorem Way.over (hn : (L.map Lot.Id).Nodup) (s : Stuck L W P cur left out) {q : Nat} (h : Way L W P out q) : ∀ l ∈ L, zfm l (wAt W q) = true → left l.Id = 0 := by
 induction h with
 | base => exact s.none_
 | @step p m u w hm hs hu he hb ih =>
  intro l hl hls
  by_cases hc : zge l m < 0
  ·exact s.inv.E _ hu l hl m hm he.symm hc hls
  ·refine ih l hl ?_
   obtain ⟨l', h1, h2, h3, h4⟩ := ziq s.inv.run _ hu
   have := zmq hn h1 hm (by rw [h2, he])
   subst this
   obtain ⟨i1, a1⟩ := zeo.1 hls
   obtain ⟨i2, a2⟩ := zeo.1 hs
   obtain ⟨i3, a3⟩ := zeo.1 h4
   exact zeo.2 ⟨by rw [i1, ← i3, i2], has_of a1 a2 (bef_day hb) hc⟩
theorem Way.all (hn : (L.map Lot.Id).Nodup) (s : Stuck L W P cur left out) {q : Nat} (h : Way L W P out q) : ∀ m ∈ L, zfm m (wAt W q) = true → ∀ v ∈ out, v.Lot = m.Id → Way L W P out v.Want.toNat := by
 induction h with
 | base => intro m hm hs v hv he; exact .step .base hm hs hv he (s.inv.M v hv)
 | @step p m' u w hm' hs' hu he' hb ih =>
  intro m hm hs v hv he
  have hwq : Way L W P out u.Want.toNat := .step w hm' hs' hu he' hb
  by_cases hx : v.Want.toNat = u.Want.toNat ∨ bef W v.Want.toNat u.Want.toNat
  ·exact .step hwq hm hs hv he hx
  ·have hvu : v.Want.toNat ≠ u.Want.toNat := fun e => hx (.inl e)
   have hbv : bef W u.Want.toNat v.Want.toNat := by
    rcases bef_total hvu with h | h
    ·exact absurd (.inr h) hx
    ·exact h
   by_cases hc : zge m m' < 0
   ·exfalso
    obtain ⟨i, hi, ei⟩ := List.getElem_of_mem hu
    obtain ⟨j, hj, ej⟩ := List.getElem_of_mem hv
    have hp := List.pairwise_iff_getElem.1 s.inv.R
    rcases Nat.lt_trichotomy i j with hij | hij | hij
    ·have := (hp i j hi hj hij).1
     rw [ei, ej] at this
     exact this m hm m' hm' he.symm he'.symm hc hs
    ·subst hij; rw [ei] at ej; subst ej; exact hvu rfl
    ·have := (hp j i hj hi hij).2
     rw [ei, ej] at this
     exact hx this
   ·refine ih m hm ?_ v hv he
    obtain ⟨l', h1, h2, h3, h4⟩ := ziq s.inv.run _ hu
    have := zmq hn h1 hm' (by rw [h2, he'])
    subst this
    obtain ⟨i1, a1⟩ := zeo.1 hs
    obtain ⟨i2, a2⟩ := zeo.1 hs'
    obtain ⟨i3, a3⟩ := zeo.1 h4
    exact zeo.2 ⟨by rw [i1, ← i3, i2], has_of a1 a2 (bef_day hb) hc⟩
open Classical in
theorem stuck_hall (hn : (L.map Lot.Id).Nodup) (hstart : CSOk (zew L W)) (s : Stuck L W P cur left out) : ∃ S : Nat → Bool, (∀ i, S i = true → i < W.length ∧ (wAt W i).Item = (wAt W P).Item) ∧ zni L W (zew L W).left S < zk3 W (zew L W).need S := by
 refine ⟨fun i => decide (Way L W P out i), fun i hi => ?_, ?_⟩
 ·have := Way.item hn s (of_decide_eq_true hi)
  exact ⟨this.2, this.1⟩
 ·have ok := zlo s.inv.run hstart
  have ph := ztj hn (fun i => decide (Way L W P out i)) s.inv.run (fun u hu l hl he hm => by
   unfold nS at hm
   rw [List.any_eq_true] at hm
   obtain ⟨i, _, hi⟩ := hm
   rw [Bool.and_eq_true] at hi
   exact decide_eq_true (Way.all hn s (of_decide_eq_true hi.1) l hl hi.2 u hu he.symm))
  have hz : zni L W left (fun i => decide (Way L W P out i)) = 0 := zk9 fun l hl => by
   cases hm : nS W (fun i => decide (Way L W P out i)) l with
   | false => rfl
   | true =>
    unfold nS at hm
    rw [List.any_eq_true] at hm
    obtain ⟨i, _, hi⟩ := hm
    rw [Bool.and_eq_true] at hi
    exact Way.over hn s (of_decide_eq_true hi.1) l hl hi.2
  have hpos : 0 < zk3 W cur (fun i => decide (Way L W P out i)) := by
   have h1 := zqs (f := fun i => bif decide (Way L W P out i) then cur i else 0) (g := fun i => if i = P then 0 else bif decide (Way L W P out i) then cur i else 0) (a := P) (d := cur P) (l := List.range W.length) List.nodup_range (List.mem_range.2 s.lt) (fun b _ hb => by simp [hb]) (by simp [Way.base])
   have h2 : 0 ≤ sumF (fun i => if i = P then 0 else bif decide (Way L W P out i) then cur i else 0) (List.range W.length) := sumF_nn fun i _ => by
    have := ok.need i
    simp only at this
    split
    ·exact Int.le_refl _
    ·cases decide (Way L W P out i)
     ·exact Int.le_refl _
     ·exact this
   have := s.pos
   simp only [zk3]
   omega
  simp only at ph
  omega
end
theorem ztc {L : List Lot} {W : List Want} (h : zgs L W = true) :
  (∀ us lf, zff L W = some (us, lf) → ∃ cur, zhd L W (zew L W) us = some ⟨lf, cur⟩ ∧ ∀ i < W.length, cur i = 0) ∧
  (zff L W = none → ∃ p cur lf us, Stuck L W p cur lf us) := by
 obtain ⟨f1, f2, f3, f4, f5⟩ := zg7 h
 have e : zff L W = zgt L W (zbd W) (znj L) [] := by unfold zff; rw [h]; rfl
 rw [e]
 refine zr5 f4 (zke h) (zbd W) [] rfl ⟨?_, by simp, List.Pairwise.nil, by simp⟩
 simp [zhd, zew]
theorem zoi {L : List Lot} {W : List Want} {us : List Use} {lf : Lf} (h : zff L W = some (us, lf)) : zgs L W = true ∧ checks L W us = true := by
 have hm : zgs L W = true := by
  unfold zff at h
  cases hm : zgs L W with
  | true => rfl
  | false => rw [hm] at h; cases h
 obtain ⟨cur, h1, h2⟩ := (ztc hm).1 us lf h
 refine ⟨hm, ?_⟩
 unfold checks
 rw [hm, h1]
 simp only [Bool.true_and, List.all_eq_true, decide_eq_true_eq]
 exact fun i hi => h2 i (List.mem_range.1 hi)
theorem greedy_why {L : List Lot} {W : List Want} (hm : zgs L W = true) (h : zff L W = none) : ∃ S : Nat → Bool, (∃ p < W.length, S p = true ∧ ∀ i, S i = true → i < W.length ∧ (wAt W i).Item = (wAt W p).Item) ∧ zni L W (zew L W).left S < zk3 W (zew L W).need S := by
 obtain ⟨f1, f2, f3, f4, f5⟩ := zg7 hm
 obtain ⟨p, cur, lf, us, s⟩ := (ztc hm).2 h
 obtain ⟨S, h1, h2⟩ := stuck_hall f4 (zke hm) s
 by_cases hS : ∃ q, S q = true
 ·obtain ⟨q, hq⟩ := hS
  exact ⟨S, ⟨q, (h1 q hq).1, hq, fun i hi => ⟨(h1 i hi).1, by rw [(h1 i hi).2, (h1 q hq).2]⟩⟩, h2⟩
 ·exfalso
  have e : zk3 W (zew L W).need S = 0 := zk9 fun i _ => by
   cases hi : S i with
   | false => rfl
   | true => exact absurd ⟨i, hi⟩ hS
  have : 0 ≤ zni L W (zew L W).left S := sumF_nn fun l _ => by
   cases nS W S l
   ·exact Int.le_refl _
   ·exact (zke hm).left _
  omega
theorem zrx {L : List Lot} {W : List Want} (hm : zgs L W = true) : (zff L W).isSome = true ↔ Hall L W := by
 constructor
 ·intro h
  cases e : zff L W with
  | none => rw [e] at h; cases h
  | some x => exact (checks_hall (zoi (us := x.1) (lf := x.2) e).2).2
 ·intro h
  cases e : zff L W with
  | some x => rfl
  | none =>
   obtain ⟨S, _, hS⟩ := greedy_why hm e
   have := h S
   omega
end Go.Ab
namespace Go.Ab
variable {C : CSem} {N : Nat → Nat}
def ints (n : Nat) (f : Nat → Int) : List (List AVal) := zg9 n fun j => [.int .i64 (f j)]
@[simp] theorem ints_len (n : Nat) (f : Nat → Int) : (ints n f).length = n := zr4 ..
theorem ints_get {n k : Nat} (f : Nat → Int) (h : k < n) : (ints n f)[k]? = some [.int .i64 (f k)] := zgy _ h
theorem zpj {n : Nat} {f g : Nat → Int} (h : ∀ j, j < n → f j = g j) : ints n f = ints n g := zf2 fun j hj => by rw [h j hj]
theorem ints_set {n k : Nat} (f : Nat → Int) (v : Int) : (ints n f).set k [.int .i64 v] = ints n fun j => if j = k then v else f j := by
 unfold ints
 rw [zli]
 exact zf2 fun j _ => by by_cases e : j = k <;> simp [e]
theorem ints_step (n k : Nat) (f : Nat → Int) : ints n (fun j => if j < k + 1 then f j else 0) = ints n fun j => if j = k then f k else if j < k then f j else 0 := zpj fun j _ => by
 by_cases e : j = k
 ·subst e; simp
 ·rw [if_neg e]
  by_cases e2 : j < k
  ·rw [if_pos e2, if_pos (by omega)]
  ·rw [if_neg e2, if_neg (by omega)]
theorem SlX.intAt {h : za} {x : AVal} {n k : Nat} {f : Nat → Int} {R : List (List AVal)} (hs : SlX h 1 x (ints n f) R) (hk : k < n) : V.idxS 1 x (.int .i64 (k : Int)) = some (elp 1 x k 0) ∧ A.ldv h (elp 1 x k 0) = some (.int .i64 (f k)) :=
 ⟨hs.idxN (by simpa using hk), hs.cell (ints_get f hk)⟩
structure LotsAt (h : za) (x : AVal) (L : List Lot) (k : Nat) : Prop where
 ix : V.idxS 6 x (.int .i64 (k : Int)) = some (elp 6 x k 0)
 fa : ∀ f, V.fieldAddr f (elp 6 x k 0) = some (elp 6 x k f)
 el : ∀ l, L[k]? = some l → A.ldnv h (elp 6 x k 0) 6 = some (.agg l.cs)
 id : ∀ l, L[k]? = some l → A.ldv h (elp 6 x k 0) = some (.int .i64 l.Id)
 qty : ∀ l, L[k]? = some l → A.ldv h (elp 6 x k 4) = some (.int .i64 l.Qty)
theorem SlX.lotAt {h : za} {x : AVal} {L : List Lot} {R : List (List AVal)} (hx : SlX h 6 x (L.map Lot.cs) R) {k : Nat} (hk : k < L.length) : LotsAt h x L k := by
 have g : (L.map Lot.cs)[k]? = some (L[k]).cs := by rw [List.getElem?_map, List.getElem?_eq_getElem hk]; rfl
 have kk : k < (L.map Lot.cs).length := by simpa using hk
 refine ⟨hx.idxN kk, fun f => ?_, fun l hl => ?_, fun l hl => ?_, fun l hl => ?_⟩
 ·have := hx.zom kk 0 f; simpa using this
 all_goals rw [List.getElem?_eq_getElem hk] at hl; cases hl
 ·exact hx.elem g
 ·have := hx.ldv (f := 0) g (by omega); simpa using this
 ·have := hx.ldv (f := 4) g (by omega); simpa using this
structure WantsAt (h : za) (y : AVal) (W : List Want) (k : Nat) : Prop where
 ix : V.idxS 3 y (.int .i64 (k : Int)) = some (elp 3 y k 0)
 fa : ∀ f, V.fieldAddr f (elp 3 y k 0) = some (elp 3 y k f)
 el : A.ldnv h (elp 3 y k 0) 3 = some (.agg (wAt W k).cs)
 item : A.ldv h (elp 3 y k 0) = some (.str (wAt W k).Item)
 day : A.ldv h (elp 3 y k 1) = some (.int .i64 (wAt W k).Day)
 qty : A.ldv h (elp 3 y k 2) = some (.int .i64 (wAt W k).Qty)
theorem SlX.wantAt {h : za} {y : AVal} {W : List Want} {R : List (List AVal)} (hy : SlX h 3 y (W.map Want.cs) R) {k : Nat} (hk : k < W.length) : WantsAt h y W k := by
 have g : (W.map Want.cs)[k]? = some (wAt W k).cs := by rw [List.getElem?_map, List.getElem?_eq_getElem hk, ziv hk]; rfl
 have kk : k < (W.map Want.cs).length := by simpa using hk
 refine ⟨hy.idxN kk, fun f => ?_, hy.elem g, ?_, ?_, ?_⟩
 ·have := hy.zom kk 0 f; simpa using this
 ·have := hy.ldv (f := 0) g (by omega); simpa using this
 ·have := hy.ldv (f := 1) g (by omega); simpa using this
 ·have := hy.ldv (f := 2) g (by omega); simpa using this
def lAt (L : List Lot) (k : Nat) : Lot := L.getD k ⟨0, [], 0, 0, 0, false⟩
theorem znk {L : List Lot} {k : Nat} (h : k < L.length) : lAt L k = L[k] := by simp [lAt, h]
theorem zq1 {L : List Lot} {k : Nat} (h : k < L.length) : L[k]? = some (lAt L k) := by rw [znk h, List.getElem?_eq_getElem h]
theorem lAt_mem {L : List Lot} {k : Nat} (h : k < L.length) : lAt L k ∈ L := by rw [znk h]; exact List.getElem_mem h
theorem lAt_inj {L : List Lot} (hn : (L.map Lot.Id).Nodup) {i j : Nat} (hi : i < L.length) (hj : j < L.length) (e : (lAt L i).Id = (lAt L j).Id) : i = j := by
 rw [znk hi, znk hj] at e
 exact zi4 hn (by simpa using hi) (by simpa using hj) (by simpa using e)
section
variable {h0 h : za} {L : List Lot} {W : List Want} {U : List Use} {Q : AVal → za → Prop} {x y z nd lf : AVal} {R S T : List (List AVal)}
end
end Go.Ab
namespace Go.Ab
variable {C : CSem} {N : Nat → Nat}
def can (left : Lf) (w : Want) (l : Lot) : Bool := decide (0 < left l.Id) && zfm l w
theorem zlp {s : FS5} {w : Want} {l : Lot} : can s.left w l = true ↔ l.Item = w.Item ∧ avail w s l := by
 unfold can avail
 rw [Bool.and_eq_true, decide_eq_true_eq, zeo]
 exact ⟨fun ⟨a, b, c⟩ => ⟨b, a, c⟩, fun ⟨b, a, c⟩ => ⟨a, b, c⟩⟩
theorem row_none {L : List Lot} {W : List Want} {p : Nat} {st : FS5} (hok : FSOk st) (h : ∀ j < L.length, can st.left (wAt W p) (lAt L j) = false) (i : Int) : (rowOf L (wAt W p)).foldl (zea i (wAt W p)) st = st := by
 refine zol _ hok (.inr fun l hl hav => ?_)
 obtain ⟨h1, h2⟩ := zj5.1 hl
 obtain ⟨j, hj, rfl⟩ := List.getElem_of_mem h1
 have := h j hj
 rw [znk hj, zlp.2 ⟨h2, hav⟩] at this
 cases this
theorem row_pick {L : List Lot} {W : List Want} {p : Nat} {st : FS5} (hok : FSOk st) (hn : (L.map Lot.Id).Nodup) {m : Nat} (hm : m < L.length) (hc : can st.left (wAt W p) (lAt L m) = true) (hmin : ∀ j < L.length, can st.left (wAt W p) (lAt L j) = true → ¬ zge (lAt L j) (lAt L m) < 0) (hneed : 0 < st.need) (i : Int) :
  (rowOf L (wAt W p)).foldl (zea i (wAt W p)) st = (rowOf L (wAt W p)).foldl (zea i (wAt W p)) (zea i (wAt W p) st (lAt L m)) := by
 obtain ⟨c1, c2⟩ := zlp.1 hc
 have hr : lAt L m ∈ rowOf L (wAt W p) := zj5.2 ⟨lAt_mem hm, c1⟩
 obtain ⟨A, B', e⟩ := List.append_of_mem hr
 have hup := rowOf_up L (wAt W p)
 rw [e] at hup ⊢
 have hnd : ((A ++ lAt L m :: B').map Lot.Id).Nodup := by
  rw [← e]
  exact (zmk hn).sublist (List.filter_sublist.map _)
 have hid : ∀ a ∈ A, a.Id ≠ (lAt L m).Id := fun a ha e2 => by
  rw [List.map_append, List.nodup_append] at hnd
  exact hnd.2.2 a.Id (List.mem_map_of_mem ha) (lAt L m).Id (by simp) e2
 refine foldU_pick hok (fun a ha hav => ?_) c2 hneed hid
 have har : a ∈ rowOf L (wAt W p) := by rw [e]; simp [ha]
 obtain ⟨a1, a2⟩ := zj5.1 har
 obtain ⟨j, hj, rfl⟩ := List.getElem_of_mem a1
 have h1 := hmin j hj (by rw [znk hj]; exact zlp.2 ⟨a2, hav⟩)
 rw [znk hj] at h1
 rw [List.pairwise_append] at hup
 have h2 := hup.2.2 _ ha (lAt L m) (by simp)
 unfold zch at h2
 rw [decide_eq_false_iff_not] at h2
 rw [zhy] at h1 h2
 have := hid _ ha
 omega
section
variable {h0 h : za} {L : List Lot} {W : List Want} {Q : AVal → za → Prop} {Y1 Y2 : List AVal → za → Prop} {x y lf dn' z v10 : AVal} {R S : List (List AVal)} {p : Nat} {st : FS5} {D : List (List AVal)}
theorem rfill_pick (s1 : zde.Spec C N) (s2 : zc5.Spec C N) (hx : SlX h0 6 x (L.map Lot.cs) R) (hy : SlX h0 3 y (W.map Want.cs) S) (hL : L.length ≤ 300) (hp : p < W.length)
  (hok : FSOk st) (hsm : Small st) (hn : (L.map Lot.Id).Nodup) (hneed : 0 < st.need) (hout : st.out.length ≤ 50000000)
  (o : Owns h0 h [.sl 1 dn' D [], .sl 1 lf (ints L.length fun k => st.left (lAt L k).Id) [], .sl 3 z (st.out.map Use.cs) []])
  (no : (∀ j < L.length, can st.left (wAt W p) (lAt L j) = false) → Q (.tup [.nils, .bool false]) h)
  (yes : ∀ m z' h', m < L.length → can st.left (wAt W p) (lAt L m) = true → (∀ j < L.length, can st.left (wAt W p) (lAt L j) = true → ¬ zge (lAt L j) (lAt L m) < 0) →
   Owns h0 h' [.sl 1 dn' D [], .sl 1 lf (ints L.length fun k => (zea (p : Int) (wAt W p) st (lAt L m)).left (lAt L k).Id) [], .sl 3 z' ((zea (p : Int) (wAt W p) st (lAt L m)).out.map Use.cs) []] → Y2 [z', .int .i64 (zea (p : Int) (wAt W p) st (lAt L m)).need] h') :
  zm (zu.l3 C N Q Y1 Y2 x y lf dn' z v10 (.int .i64 (p : Int)) (.int .i64 st.need)) [.int .i64 (-1), .int .i64 0] h := by
 have e1 := hx.zcj
 rw [List.length_map] at e1
 have hxx := hx.mono o.le
 have hyy := hy.mono o.le
 have b := hyy.wantAt hp
 have hlf := o.slAt 1 rfl
 refine zm.intro (fun t vs hh => hh = h ∧ ∃ (i : Nat) (k : Int), i + t = L.length ∧ vs = [.int .i64 k, .int .i64 (i : Int)] ∧ ((k = -1 ∧ ∀ j < i, can st.left (wAt W p) (lAt L j) = false) ∨ ∃ m : Nat, k = m ∧ m < L.length ∧ can st.left (wAt W p) (lAt L m) = true ∧ ∀ j < i, can st.left (wAt W p) (lAt L j) = true → ¬ zge (lAt L j) (lAt L m) < 0)) L.length ?_ ⟨rfl, 0, -1, by omega, rfl, .inl ⟨rfl, fun i hi => by omega⟩⟩
 rintro Z t vs hh ⟨rfl, i, k, hit, rfl, hk⟩ hZ
 simp -dsimp only [zu.l3, zu.k2, e1, lssN, B.ze]
 refine B.zk (fun hc => ?_) (fun hc => ?_) <;> simp only [decide_eq_true_eq, decide_eq_false_iff_not] at hc
 ·have a := hxx.lotAt hc
  have ael := a.el _ (zq1 hc)
  obtain ⟨c1, c2⟩ := hlf.intAt hc
  have ad := add1 (show i < 4611686018427387904 by omega)
  have skip : can st.left (wAt W p) (lAt L i) = false → Z [.int .i64 k, .int .i64 ((i + 1 : Nat) : Int)] hh := fun hf => by
   refine hZ (L.length - (i + 1)) _ _ (by omega) ⟨rfl, i + 1, k, by omega, rfl, ?_⟩
   rcases hk with ⟨h1, h2⟩ | ⟨m, h1, h2, h3, h4⟩
   ·refine .inl ⟨h1, fun j hj => ?_⟩
    by_cases e : j = i
    ·subst e; exact hf
    ·exact h2 j (by omega)
   ·refine .inr ⟨m, h1, h2, h3, fun j hj hcj => ?_⟩
    by_cases e : j = i
    ·subst e; rw [hf] at hcj; cases hcj
    ·exact h4 j (by omega) hcj
  by_cases hpos : 0 < st.left (lAt L i).Id
  ·simp -dsimp only [c1, B.zic, c2, V.zsc, hpos, decide_true, B.gd_t, B.zeg, a.ix, ael, B.zod, b.ix, b.el, B.ze]
   refine s1 _ _ _ _ ?_
   have hcan : can st.left (wAt W p) (lAt L i) = zfm (lAt L i) (wAt W p) := by unfold can; rw [decide_eq_true hpos]; rfl
   cases hs : zfm (lAt L i) (wAt W p) with
   | false =>
    simp -dsimp [ad]
    have := skip (by rw [hcan, hs])
    simpa using this
   | true =>
    rcases hk with ⟨rfl, hno⟩ | ⟨m, rfl, hm, hcm, hmin⟩
    ·simp -dsimp [ad]
     have := hZ (L.length - (i + 1)) [.int .i64 (i : Int), .int .i64 ((i + 1 : Nat) : Int)] hh (by omega) ⟨rfl, i + 1, i, by omega, rfl, .inr ⟨i, rfl, hc, by rw [hcan, hs], fun j hj hcj => by
      by_cases e : j = i
      ·subst e; rw [zhy]; omega
      ·rw [hno j (by omega)] at hcj; cases hcj⟩⟩
     simpa using this
    ·have a' := hxx.lotAt hm
     have ael' := a'.el _ (zq1 hm)
     simp -dsimp [a.ix, ael, a'.ix, ael', show ¬ ((m : Int) < 0) by omega]
     refine s2 _ _ _ _ ?_
     simp -dsimp [ad]
     refine B.zk (fun hd => ?_) (fun hd => ?_) <;> simp only [decide_eq_true_eq, decide_eq_false_iff_not] at hd
     ·have := hZ (L.length - (i + 1)) [.int .i64 (i : Int), .int .i64 ((i + 1 : Nat) : Int)] hh (by omega) ⟨rfl, i + 1, i, by omega, rfl, .inr ⟨i, rfl, hc, by rw [hcan, hs], fun j hj hcj => by
       by_cases e : j = i
       ·subst e; rw [zhy]; omega
       ·have := hmin j (by omega) hcj
        rw [zhy] at *
        omega⟩⟩
      simpa -dsimp [ad] using this
     ·have := hZ (L.length - (i + 1)) [.int .i64 (m : Int), .int .i64 ((i + 1 : Nat) : Int)] hh (by omega) ⟨rfl, i + 1, m, by omega, rfl, .inr ⟨m, rfl, hm, hcm, fun j hj hcj => by
       by_cases e : j = i
       ·subst e; exact hd
       ·exact hmin j (by omega) hcj⟩⟩
      simpa -dsimp [ad] using this
  ·simp -dsimp [c1, c2, hpos, ad]
   have := skip (by unfold can; rw [decide_eq_false hpos]; rfl)
   simpa using this
 ·rcases hk with ⟨rfl, hno⟩ | ⟨m, rfl, hm, hcm, hmin⟩
  ·simp -dsimp
   exact no fun j hj => hno j (by omega)
  ·have a := hxx.lotAt hm
   obtain ⟨c1, c2⟩ := hlf.intAt hm
   have tk := zh4 hok (lAt L m)
   obtain ⟨m1, m2⟩ := zlp.1 hcm
   have tp : 0 < zej st (lAt L m) := by have := m2.1; unfold zej; omega
   have k1 := hsm.left (lAt L m).Id
   have k2 := hsm.need
   have k3 := hok.left (lAt L m).Id
   have hst : zea (p : Int) (wAt W p) st (lAt L m) = ⟨fun n => if n = (lAt L m).Id then st.left (lAt L m).Id - zej st (lAt L m) else st.left n, st.need - zej st (lAt L m), st.out ++ [⟨(p : Int), (lAt L m).Id, zej st (lAt L m)⟩]⟩ := by
    unfold zea; rw [if_neg]; intro hcc
    rcases hcc with hcc | hcc
    ·omega
    ·rw [m2.2] at hcc; cases hcc
   have hte : min st.need (st.left (lAt L m).Id) = zej st (lAt L m) := rfl
   have yy := yes m
   rw [hst] at yy
   have lb : V.bin .lss (.int .i64 (m : Int)) (.int .i64 0) = some (.bool false) := by rw [V.zfx, decide_eq_false (by omega)]
   simp -dsimp only [zu.k1, lb, B.cond_false, c1, B.zic, c2, V.zqw, hte, V.zf3, B.ze]
   rw [wrap_i64 (n := st.left (lAt L m).Id - zej st (lAt L m)) (by omega) (by omega)]
   refine o.st 1 rfl (i := m) (f := 0) (ints_get _ hm) (by omega) rfl fun h2 o2 _ => ?_
   have es1 : ∀ (a b : AVal), ([a].set 0 b) = [b] := fun _ _ => rfl
   simp only [List.set_cons_zero, List.set_cons_succ, es1, ints_set] at o2
   have a2 := (hx.mono o2.le).lotAt hm
   have a0 := a2.fa 0
   simp -dsimp only [V.zf3, a2.ix, a0, B.zic, a2.id _ (zq1 hm), bldUse, fillUse1, B.ze]
   rw [wrap_i64 (n := st.need - zej st (lAt L m)) (by omega) (by omega)]
   refine o2.push 2 rfl (cs := Use.cs ⟨(p : Int), (lAt L m).Id, zej st (lAt L m)⟩) rfl (by omega) (by simp; omega) (by simp [maxLen]; omega) fun z' h3 o3 _ => ?_
   refine yy z' h3 hm hcm (fun j hj hcj => hmin j (by omega) hcj) ?_
   simp only [List.set_cons_zero, List.set_cons_succ] at o3
   have q2 : (ints L.length fun k => if (lAt L k).Id = (lAt L m).Id then st.left (lAt L m).Id - zej st (lAt L m) else st.left (lAt L k).Id) = ints L.length fun j => if j = m then st.left (lAt L m).Id - zej st (lAt L m) else st.left (lAt L j).Id := zpj fun j hj => by
    by_cases e : j = m
    ·subst e; rw [if_pos rfl, if_pos rfl]
    ·rw [if_neg e, if_neg fun e2 => e (lAt_inj hn hj hm e2)]
   simp only
   rw [q2]
   simpa using o3
end
end Go.Ab
namespace Go.Ab
variable {C : CSem} {N : Nat → Nat}
theorem stepU_grow (i : Int) (w : Want) (s : FS5) (l : Lot) : s.out.length ≤ (zea i w s l).out.length ∧ (zea i w s l).out.length ≤ s.out.length + 1 := by
 unfold zea; split
 ·exact ⟨Nat.le_refl _, by omega⟩
 ·simp
theorem zl1 {i : Int} {w : Want} : ∀ (S : List Lot) {s : FS5}, s.out.length ≤ (S.foldl (zea i w) s).out.length ∧ (S.foldl (zea i w) s).out.length ≤ s.out.length + S.length
 | [], _ => ⟨Nat.le_refl _, by simp⟩
 | l :: S, s => by
  have h1 := stepU_grow i w s l
  have h2 := zl1 (i := i) (w := w) S (s := zea i w s l)
  simp only [List.foldl_cons, List.length_cons]
  omega
section
variable {h0 h : za} {L : List Lot} {W : List Want} {Q : AVal → za → Prop} {Y1 : List AVal → za → Prop} {x y lf dn' z : AVal} {R S : List (List AVal)} {p n : Nat} {st : FS5} {D : List (List AVal)}
theorem rfill_want (s1 : zde.Spec C N) (s2 : zc5.Spec C N) (hx : SlX h0 6 x (L.map Lot.cs) R) (hy : SlX h0 3 y (W.map Want.cs) S) (hL : L.length ≤ 300) (hp : p < W.length)
  (hok : FSOk st) (hsm : Small st) (hn : (L.map Lot.Id).Nodup) (hout : st.out.length ≤ 40000000) (hnn : n < 4611686018427387904)
  (o : Owns h0 h [.sl 1 dn' D [], .sl 1 lf (ints L.length fun k => st.left (lAt L k).Id) [], .sl 3 z (st.out.map Use.cs) []])
  (no : ∀ h', h0.le h' → 0 < ((rowOf L (wAt W p)).foldl (zea (p : Int) (wAt W p)) st).need → Q (.tup [.nils, .bool false]) h')
  (yes : ∀ z' h', ((rowOf L (wAt W p)).foldl (zea (p : Int) (wAt W p)) st).need = 0 →
   Owns h0 h' [.sl 1 dn' D [], .sl 1 lf (ints L.length fun k => ((rowOf L (wAt W p)).foldl (zea (p : Int) (wAt W p)) st).left (lAt L k).Id) [], .sl 3 z' (((rowOf L (wAt W p)).foldl (zea (p : Int) (wAt W p)) st).out.map Use.cs) []] → Y1 [z', .int .i64 ((n + 1 : Nat) : Int)] h') :
  zm (zu.l5 C N Q Y1 x y lf dn' (.int .i64 (n : Int)) (.int .i64 (p : Int))) [z, .int .i64 st.need] h := by
 have gr0 := zl1 (i := (p : Int)) (w := wAt W p) (rowOf L (wAt W p)) (s := st)
 have rl := rowOf_le L (wAt W p)
 refine zm.intro (fun t vs hh => ∃ (z : AVal) (s : FS5), t = s.need.toNat ∧ vs = [z, .int .i64 s.need] ∧ Owns h0 hh [.sl 1 dn' D [], .sl 1 lf (ints L.length fun k => s.left (lAt L k).Id) [], .sl 3 z (s.out.map Use.cs) []] ∧ FSOk s ∧ Small s ∧
  (rowOf L (wAt W p)).foldl (zea (p : Int) (wAt W p)) s = (rowOf L (wAt W p)).foldl (zea (p : Int) (wAt W p)) st) st.need.toNat ?_ ⟨z, st, rfl, rfl, o, hok, hsm, rfl⟩
 rintro Y t vs hh ⟨z, s, rfl, rfl, o, hok, hsm, he⟩ hY
 simp -dsimp only [zu.l5, zu.k4, V.zsc, B.ze]
 have gr := zl1 (i := (p : Int)) (w := wAt W p) (rowOf L (wAt W p)) (s := s)
 rw [he] at gr
 refine B.zk (fun hc => ?_) (fun hc => ?_) <;> simp only [decide_eq_true_eq, decide_eq_false_iff_not] at hc
 ·refine rfill_pick s1 s2 hx hy hL hp hok hsm hn hc (by omega) o (fun hno => no hh o.le ?_) fun m z' h' hm hcm hmin o' => ?_
  ·rw [← he, row_none hok hno]; exact hc
  ·have tk := zh4 hok (lAt L m)
   obtain ⟨m1, m2⟩ := zlp.1 hcm
   have tp : 0 < zej s (lAt L m) := by have := m2.1; unfold zej; omega
   have hst : (zea (p : Int) (wAt W p) s (lAt L m)).need = s.need - zej s (lAt L m) := by
    unfold zea; rw [if_neg]; intro hcc
    rcases hcc with hcc | hcc
    ·omega
    ·rw [m2.2] at hcc; cases hcc
   refine hY _ _ _ (by rw [show (zea (p : Int) (wAt W p) s (lAt L m)).need.toNat = (s.need - zej s (lAt L m)).toNat by rw [hst]]; omega) ⟨z', zea (p : Int) (wAt W p) s (lAt L m), rfl, rfl, o', znx hok _ _ _, zm0 hok hsm _ _ _, ?_⟩
   rw [← row_pick hok hn hm hcm hmin hc]; exact he
 ·have h0n : s.need = 0 := by have := hok.need; omega
  have ef := zol (i := (p : Int)) (w := wAt W p) (rowOf L (wAt W p)) hok (.inl h0n)
  rw [he] at ef
  simp -dsimp only [add1 hnn, B.ze]
  refine yes z hh (by rw [ef]; exact h0n) ?_
  rw [ef]; exact o
def zjz (W : List Want) (n : Nat) (j : Nat) : Bool := ((zbd W).take n).any fun a => decide (a.val = j)
theorem done_min {W : List Want} {n m : Nat} (hn : n < W.length) (hm : m < W.length) (hu : zjz W n m = false) (hmin : ∀ j < W.length, zjz W n j = false → j = m ∨ bef W m j) : ((zbd W)[n]'(by rw [zfp]; exact hn)).val = m := by
 have hl : n < (zbd W).length := by rw [zfp]; exact hn
 have hup := zko W
 have hnd := zss W
 have hund : zjz W n ((zbd W)[n]).val = false := by
  unfold zjz
  rw [List.any_eq_false]
  intro a ha
  simp only [decide_eq_true_eq]
  intro e
  obtain ⟨i, hi, rfl⟩ := List.getElem_of_mem ha
  rw [List.length_take] at hi
  rw [List.getElem_take] at e
  have := hup
  rw [List.pairwise_iff_getElem] at this
  have h1 := this i n (by omega) hl (by omega)
  rw [Fin.ext e] at h1
  exact zl8 W _ h1
 rcases hmin _ ((zbd W)[n]).2 hund with e | hb
 ·exact e
 ·exfalso
  obtain ⟨i, hi, ei⟩ := List.getElem_of_mem (zqb W ⟨m, hm⟩)
  have hin : ¬ i < n := fun h => by
   unfold zjz at hu
   rw [List.any_eq_false] at hu
   have := hu (zbd W)[i] (by rw [List.mem_iff_getElem]; exact ⟨i, by rw [List.length_take]; omega, by rw [List.getElem_take]⟩)
   simp only [decide_eq_true_eq] at this
   exact this (by rw [ei])
  rcases Nat.lt_or_ge n i with h | h
  ·have := (List.pairwise_iff_getElem.1 hup) n i hl hi h
   rw [ei] at this
   exact bef_asym hb (bef_of this)
  ·have : i = n := by omega
   subst this
   rw [ei] at hb
   exact bef_asym hb hb
def zmw (n : Nat) (f : Nat → Bool) : List (List AVal) := zg9 n fun j => [.bool (f j)]
theorem zto {n k : Nat} (f : Nat → Bool) (h : k < n) : (zmw n f)[k]? = some [.bool (f k)] := zgy _ h
theorem boolsB_set {n k : Nat} (f : Nat → Bool) (v : Bool) : (zmw n f).set k [.bool v] = zmw n fun j => if j = k then v else f j := by
 unfold zmw
 rw [zli]
 exact zf2 fun j _ => by by_cases e : j = k <;> simp [e]
theorem SlX.boolAt {h : za} {x : AVal} {n k : Nat} {f : Nat → Bool} {R : List (List AVal)} (hs : SlX h 1 x (zmw n f) R) (hk : k < n) : V.idxS 1 x (.int .i64 (k : Int)) = some (elp 1 x k 0) ∧ A.ldv h (elp 1 x k 0) = some (.bool (f k)) :=
 ⟨hs.idxN (by simpa [zmw] using hk), hs.cell (zto f hk)⟩
theorem rfill_next (hy : SlX h0 3 y (W.map Want.cs) S) (hW : W.length ≤ 20000) (hn : n < W.length)
  (o : Owns h0 h [.sl 1 dn' (zmw W.length (zjz W n)) [], .sl 1 lf (ints L.length fun k => st.left (lAt L k).Id) [], .sl 3 z (st.out.map Use.cs) []])
  (hk : ∀ h', Owns h0 h' [.sl 1 dn' (zmw W.length (zjz W (n + 1))) [], .sl 1 lf (ints L.length fun k => st.left (lAt L k).Id) [], .sl 3 z (st.out.map Use.cs) []] →
   zu.k6 C N Q Y1 x y lf dn' z (.int .i64 (n : Int)) (.int .i64 (((zbd W)[n]'(by rw [zfp]; exact hn)).val : Int)) h') :
  zm (zu.l8 C N Q Y1 x y lf dn' z (.int .i64 (n : Int))) [.int .i64 (-1), .int .i64 0] h := by
 have e2 := hy.zcj
 rw [List.length_map] at e2
 have hyy := hy.mono o.le
 have hd := o.slAt 0 rfl
 refine zm.intro (fun t vs hh => hh = h ∧ ∃ (i : Nat) (k : Int), i + t = W.length ∧ vs = [.int .i64 k, .int .i64 (i : Int)] ∧ ((k = -1 ∧ ∀ j < i, zjz W n j = true) ∨ ∃ m : Nat, k = m ∧ m < i ∧ m < W.length ∧ zjz W n m = false ∧ ∀ j < i, zjz W n j = false → j = m ∨ bef W m j)) W.length ?_ ⟨rfl, 0, -1, by omega, rfl, .inl ⟨rfl, fun i hi => by omega⟩⟩
 rintro Z t vs hh ⟨rfl, i, k, hit, rfl, hk'⟩ hZ
 simp -dsimp only [zu.l8, zu.k7, e2, lssN, B.ze]
 refine B.zk (fun hc => ?_) (fun hc => ?_) <;> simp only [decide_eq_true_eq, decide_eq_false_iff_not] at hc
 ·have b := hyy.wantAt hc
  obtain ⟨c1, c2⟩ := hd.boolAt hc
  have ad := add1 (show i < 4611686018427387904 by omega)
  have go : ∀ k : Int, ((k = -1 ∧ ∀ j < i + 1, zjz W n j = true) ∨ ∃ m : Nat, k = m ∧ m < i + 1 ∧ m < W.length ∧ zjz W n m = false ∧ ∀ j < i + 1, zjz W n j = false → j = m ∨ bef W m j) → Z [.int .i64 k, .int .i64 ((i + 1 : Nat) : Int)] hh := fun k hk => hZ (W.length - (i + 1)) _ _ (by omega) ⟨rfl, i + 1, k, by omega, rfl, hk⟩
  cases hdn : zjz W n i with
  | true =>
   rw [hdn] at c2
   simp -dsimp [c1, c2, ad]
   have := go k (by
    rcases hk' with ⟨h1, h2⟩ | ⟨m, h1, h2, h3, h4, h5⟩
    ·refine .inl ⟨h1, fun j hj => ?_⟩
     by_cases e : j = i
     ·subst e; exact hdn
     ·exact h2 j (by omega)
    ·refine .inr ⟨m, h1, by omega, h3, h4, fun j hj hjd => ?_⟩
     by_cases e : j = i
     ·subst e; rw [hdn] at hjd; cases hjd
     ·exact h5 j (by omega) hjd)
   simpa using this
  | false =>
   rw [hdn] at c2
   rcases hk' with ⟨h1, h2⟩ | ⟨m, h1, h2, h3, h4, h5⟩
   ·simp -dsimp [c1, c2, ad, h1]
    have := go i (.inr ⟨i, rfl, by omega, hc, hdn, fun j hj hjd => by
     by_cases e : j = i
     ·exact .inl e
     ·rw [h2 j (by omega)] at hjd; cases hjd⟩)
    simpa using this
   ·have b' := hyy.wantAt h3
    simp -dsimp [h1, c1, c2, b.ix, b.fa, b.day, b'.ix, b'.fa, b'.day, show ¬ ((m : Int) < 0) by omega]
    refine B.zk (fun hf => ?_) (fun hf => ?_) <;> simp only [decide_eq_true_eq, decide_eq_false_iff_not] at hf
    ·have := go i (.inr ⟨i, rfl, by omega, hc, hdn, fun j hj hjd => by
      by_cases e : j = i
      ·exact .inl e
      ·right
       rcases h5 j (by omega) hjd with rfl | hb
       ·exact .inl hf
       ·unfold bef at *; omega⟩)
     simpa -dsimp [ad] using this
    ·have := go m (.inr ⟨m, rfl, by omega, h3, h4, fun j hj hjd => by
      by_cases e : j = i
      ·subst e; right; unfold bef; omega
      ·exact h5 j (by omega) hjd⟩)
     simpa -dsimp [ad, h1] using this
 ·have hl : n < (zbd W).length := by rw [zfp]; exact hn
  rcases hk' with ⟨h1, h2⟩ | ⟨m, h1, h2, h3, h4, h5⟩
  ·exfalso
   have hund := h2 ((zbd W)[n]).val (by have := ((zbd W)[n]).2; omega)
   unfold zjz at hund
   rw [List.any_eq_true] at hund
   obtain ⟨a, ha, e⟩ := hund
   simp only [decide_eq_true_eq] at e
   obtain ⟨i', hi', rfl⟩ := List.getElem_of_mem ha
   rw [List.length_take] at hi'
   rw [List.getElem_take] at e
   have h1 := (List.pairwise_iff_getElem.1 (zko W)) i' n (by omega) hl (by omega)
   rw [Fin.ext e] at h1
   exact zl8 W _ h1
  ·have hmn := done_min hn h3 h4 fun j hj hjd => h5 j (by omega) hjd
   obtain ⟨c1, c2⟩ := hd.boolAt h3
   simp -dsimp only [h1, c1, B.ze]
   refine o.st 0 rfl (i := m) (f := 0) (zto _ h3) (by omega) rfl fun h2' o2 _ => ?_
   have es1 : ∀ (a b : AVal), ([a].set 0 b) = [b] := fun _ _ => rfl
   simp only [List.set_cons_zero, es1, boolsB_set] at o2
   have := hk h2' (by
    have e : (fun j => if j = m then true else zjz W n j) = zjz W (n + 1) := by
     funext j
     unfold zjz
     rw [take_one hl, List.any_append]
     by_cases e : j = m
     ·rw [if_pos e]; simp [hmn, e]
     ·rw [if_neg e]; simp [hmn, Ne.symm e]
    rw [← e]; exact o2)
   rw [hmn, ← h1] at this
   exact this
end
end Go.Ab
namespace Go.Ab
theorem sumF_map {α β : Type} (f : β → Int) (g : α → β) : ∀ l : List α, sumF f (l.map g) = sumF (fun a => f (g a)) l
 | [] => rfl
 | a :: l => by simp only [List.map_cons, sumF]; rw [sumF_map f g l]
theorem wAt_range (W : List Want) : (List.range W.length).map (wAt W) = W := by
 apply List.ext_getElem?
 intro i
 by_cases hi : i < W.length
 ·rw [List.getElem?_map, List.getElem?_range hi, Option.map_some, ziv hi, List.getElem?_eq_getElem hi]
 ·rw [List.getElem?_eq_none (by simp; omega), List.getElem?_eq_none (by omega)]
theorem wAt_in {W : List Want} {i : Nat} (h : i < W.length) : wAt W i ∈ W := by rw [ziv h]; exact List.getElem_mem h
def wantS' (W : List Want) (T : Want → Bool) : Int := sumF (fun w => bif T w then w.Qty else 0) W
def haveS (L : List Lot) (W : List Want) (T : Want → Bool) : Int := sumF (fun l => bif W.any (fun w => T w && zfm l w) then l.Qty else 0) L
def HallW (L : List Lot) (W : List Want) : Prop := ∀ T : Want → Bool, wantS' W T ≤ haveS L W T
theorem hall_iff {L : List Lot} {W : List Want} (hn : (L.map Lot.Id).Nodup) (hw : ∀ w ∈ W, 0 ≤ w.Qty) : Hall L W ↔ HallW L W := by
 have eL : ∀ S, zni L W (zew L W).left S = sumF (fun l => bif nS W S l then l.Qty else 0) L := fun S => zha fun l hl => by
  simp only [zew]; rw [left0_of hn hl]
 have eN : ∀ T : Want → Bool, wantS' W T = sumF (fun i => bif T (wAt W i) then (wAt W i).Qty else 0) (List.range W.length) := fun T => by
  unfold wantS'
  conv => lhs; rw [← wAt_range W]
  rw [sumF_map]
 constructor
 ·intro h T
  have := h fun i => T (wAt W i)
  rw [eL] at this
  rw [eN]
  refine Int.le_trans this (Int.le_of_eq ?_)
  unfold haveS
  refine zha fun l hl => ?_
  have : nS W (fun i => T (wAt W i)) l = W.any fun w => T w && zfm l w := by
   unfold nS
   conv => rhs; rw [← wAt_range W]
   rw [List.any_map]; rfl
  rw [this]
 ·intro h S
  have := h fun w => (List.range W.length).any fun i => S i && decide (wAt W i = w)
  rw [eN] at this
  rw [eL]
  refine Int.le_trans ?_ (Int.le_trans this (Int.le_of_eq ?_))
  ·unfold zk3
   refine sumF_le fun i hi => ?_
   simp only [zew]
   have hi' := List.mem_range.1 hi
   have nn := hw _ (wAt_in hi')
   cases hS : S i with
   | true =>
    have : ((List.range W.length).any fun j => S j && decide (wAt W j = wAt W i)) = true := List.any_eq_true.2 ⟨i, hi, by simp [hS]⟩
    rw [this]; exact Int.le_refl _
   | false => simp only [cond_false]; cases (List.range W.length).any fun j => S j && decide (wAt W j = wAt W i) <;> simp [nn]
  ·unfold haveS
   refine zha fun l hl => ?_
   have : (W.any fun w => ((List.range W.length).any fun i => S i && decide (wAt W i = w)) && zfm l w) = nS W S l := by
    rw [Bool.eq_iff_iff]
    unfold nS
    simp only [List.any_eq_true, Bool.and_eq_true, decide_eq_true_eq, List.mem_range]
    constructor
    ·rintro ⟨w, _, ⟨i, hi, hS, rfl⟩, hs⟩; exact ⟨i, hi, hS, hs⟩
    ·rintro ⟨i, hi, hS, hs⟩; exact ⟨_, wAt_in hi, ⟨i, hi, hS, rfl⟩, hs⟩
   rw [this]
theorem HallW.less {L : List Lot} {W : List Want} {w : Want} (hq : 0 ≤ w.Qty) (h : HallW L (w :: W)) : HallW L W := fun T => by
 have := h fun v => T v && decide (v ∈ W)
 unfold wantS' haveS at *
 simp only [sumF] at this
 have h1 : sumF (fun v => bif T v && decide (v ∈ W) then v.Qty else 0) W = sumF (fun v => bif T v then v.Qty else 0) W := zha fun v hv => by simp [hv]
 have h2 : 0 ≤ (bif T w && decide (w ∈ W) then w.Qty else 0) := by
  cases T w && decide (w ∈ W)
  ·exact Int.le_refl _
  ·exact hq
 have h3 : sumF (fun l => bif (w :: W).any (fun v => (T v && decide (v ∈ W)) && zfm l v) then l.Qty else 0) L = sumF (fun l => bif W.any (fun v => T v && zfm l v) then l.Qty else 0) L := zha fun l _ => by
  have : ((w :: W).any fun v => (T v && decide (v ∈ W)) && zfm l v) = W.any fun v => T v && zfm l v := by
   rw [Bool.eq_iff_iff]
   simp only [List.any_eq_true, Bool.and_eq_true, decide_eq_true_eq, List.mem_cons]
   constructor
   ·rintro ⟨v, _, ⟨a, b⟩, c⟩; exact ⟨v, b, a, c⟩
   ·rintro ⟨v, b, a, c⟩; exact ⟨v, .inr b, ⟨a, b⟩, c⟩
  rw [this]
 rw [h3] at this
 omega
theorem mayBe_iff {L : List Lot} {W : List Want} : zgs L W = true ↔ L.length ≤ 300 ∧ W.length ≤ 20000 ∧ (∀ l ∈ L, ze7 l = true) ∧ (L.map Lot.Id).Nodup ∧ ∀ w ∈ W, zep w = true := by
 refine ⟨zg7, fun ⟨a, b, c, d, e⟩ => ?_⟩
 simp only [zgs, Bool.and_eq_true, decide_eq_true_eq, List.all_eq_true]
 exact ⟨⟨⟨⟨a, b⟩, c⟩, d⟩, e⟩
theorem greedy_may {L : List Lot} {W : List Want} (h : (zff L W).isSome = true) : zgs L W = true := by
 cases e : zff L W with
 | none => rw [e] at h; cases h
 | some x => exact (zoi (us := x.1) (lf := x.2) e).1
end Go.Ab
namespace Go.Ab
variable {C : CSem} {N : Nat → Nat}
def zu.Spec (C : CSem) (N : Nat → Nat) : Prop := ∀ (x y : AVal) (L : List Lot) (W : List Want) (R S : List (List AVal)) (h : za) (Q : AVal → za → Prop), SlX h 6 x (L.map Lot.cs) R → SlX h 3 y (W.map Want.cs) S → L.length < 4611686018427387904 → W.length < 4611686018427387904 →
 FillQ L W h Q → C (N 220) [x, y] h Q
theorem zu.spec (i : zu.Imp C N) (s1 : zb5.Spec C N) (s2 : zde.Spec C N) (s3 : zc5.Spec C N) : zu.Spec C N := by
 intro x y L W R S h Q hx hy hlen hlen2 hq
 apply i
 have e1 := hx.zcj
 have e2 := hy.zcj
 rw [List.length_map] at e1 e2
 simp -dsimp only [zu.cps, zu.k14]
 refine s1 _ _ _ _ _ _ _ _ hx hy hlen hlen2 ?_
 simp -dsimp only [V.zf7, B.ze]
 cases hm : zgs L W with
 | false =>
  simp -dsimp only [Bool.not_false, B.cond_true]
  exact zba (hq.1 (by unfold zff; rw [hm]; rfl))
 | true =>
  have hgr : zff L W = zgt L W (zbd W) (znj L) [] := by unfold zff; rw [hm]; rfl
  obtain ⟨f1, f2, f3, f4, f5⟩ := zg7 hm
  have es1 : ∀ (a b : AVal), ([a].set 0 b) = [b] := fun _ _ => rfl
  simp -dsimp only [Bool.not_true, B.cond_false, e1, B.ze]
  refine ⟨by omega, ?_⟩
  have t2 : (W.length : Int).toNat = W.length := by omega
  have t1 : (L.length : Int).toNat = L.length := by omega
  refine (Owns.start h).mks (bytes := 8) (es := 1) rfl (by omega) (by omega) (by omega) (by omega) fun lf h3 o3 => ?_
  simp only [List.nil_append, t1] at o3
  refine zm.intro (fun t vs hh => ∃ k : Nat, k + t = L.length ∧ vs = [.int .i64 (k : Int)] ∧ Owns h hh [.sl 1 lf (ints L.length fun j => if j < k then (lAt L j).Qty else 0) []]) L.length ?_ ⟨0, by omega, rfl, by simpa [ints] using o3⟩
  rintro Y t vs hh ⟨k, hkt, rfl, o⟩ hY
  simp -dsimp only [zu.l13, zu.k12, e1, lssN, B.ze]
  refine B.zk (fun hc => ?_) (fun hc => ?_) <;> simp only [decide_eq_true_eq, decide_eq_false_iff_not] at hc
  ·have b := (hx.mono o.le).lotAt hc
   obtain ⟨c1, c2⟩ := (o.slAt 0 rfl).intAt hc
   simp -dsimp only [b.ix, b.fa, B.zic, b.qty _ (zq1 hc), c1, B.ze]
   refine o.st 0 rfl (i := k) (f := 0) (ints_get _ hc) (by omega) rfl fun h2 o2 _ => ?_
   simp only [List.set_cons_zero, List.set_cons_succ, es1, ints_set] at o2
   simp -dsimp only [add1 (show k < 4611686018427387904 by omega), B.ze]
   refine hY (L.length - (k + 1)) _ _ (by omega) ⟨k + 1, by omega, rfl, ?_⟩
   rw [ints_step L.length k fun j => (lAt L j).Qty]; exact o2
  ·have o : Owns h hh [.sl 1 lf (ints L.length fun k => znj L (lAt L k).Id) []] := by
    rw [zpj (n := L.length) (g := fun k => znj L (lAt L k).Id) fun j hj => by
     rw [if_pos (by omega), left0_of f4 (lAt_mem hj)]] at o
    exact o
   clear hY
   simp -dsimp only [zu.k11, e2, B.ze]
   refine ⟨by omega, ?_⟩
   refine o.mks (bytes := 1) (es := 1) rfl (by omega) (by omega) (by omega) (by omega) fun dn' h4 o4 => ?_
   simp only [List.cons_append, List.nil_append, t2, Nat.sub_self, fills_zero] at o4
   have o5 := (o4.perm (l' := [.sl 1 dn' (zg9 W.length fun _ => [.bool false]) [], .sl 1 lf (ints L.length fun k => znj L (lAt L k).Id) []]) (List.Perm.swap _ _ _)).nils 3
   simp only [List.cons_append, List.nil_append] at o5
   have ed : (zg9 W.length fun _ => [AVal.bool false]) = zmw W.length (zjz W 0) := zf2 fun j _ => by simp [zjz]
   rw [ed] at o5
   refine zm.intro (fun t vs hh => ∃ (n : Nat) (z : AVal) (lf' : Lf) (out : List Use), n + t = W.length ∧ vs = [z, .int .i64 (n : Int)] ∧ Owns h hh [.sl 1 dn' (zmw W.length (zjz W n)) [], .sl 1 lf (ints L.length fun k => lf' (lAt L k).Id) [], .sl 3 z (out.map Use.cs) []] ∧ Bnd lf' ∧ out.length ≤ 300 * n ∧
    zgt L W ((zbd W).drop n) lf' out = zff L W) W.length ?_ ⟨0, .nils, znj L, [], by omega, rfl, o5, left0_bnd f3, by simp, by rw [hgr]; rfl⟩
   rintro Y t vs hh ⟨n, z, lf', out, hnt, rfl, o, hB, hol, hf⟩ hY
   simp -dsimp only [zu.l10, zu.k9, e2, lssN, B.ze]
   refine B.zk (fun hb => ?_) (fun hb => ?_) <;> simp only [decide_eq_true_eq, decide_eq_false_iff_not] at hb
   ·have hk' : n < (zbd W).length := by rw [zfp]; exact hb
    have hd : (zbd W).drop n = (zbd W)[n] :: (zbd W).drop (n + 1) := List.drop_eq_getElem_cons hk'
    rw [hd, zp7] at hf
    have wr := zgc (f5 W[(zbd W)[n]] (List.getElem_mem _))
    have hw : wAt W ((zbd W)[n]).val = W[(zbd W)[n]] := ziv ((zbd W)[n]).2
    refine rfill_next (st := ⟨lf', W[(zbd W)[n]].Qty, out⟩) hy f2 hb o fun h6 o6 => ?_
    have b := (hy.mono o6.le).wantAt ((zbd W)[n]).2
    simp -dsimp only [zu.k6, b.ix, b.fa, B.zic, b.qty, B.ze, hw]
    have hok : FSOk ⟨lf', W[(zbd W)[n]].Qty, out⟩ := ⟨hB.nn, by simp only; omega⟩
    have hsm : Small ⟨lf', W[(zbd W)[n]].Qty, out⟩ := ⟨hB.le, by simp only; omega⟩
    have e : (rowOf L (wAt W ((zbd W)[n]).val)).foldl (zea (((zbd W)[n]).val : Int) (wAt W ((zbd W)[n]).val)) ⟨lf', W[(zbd W)[n]].Qty, out⟩ = zfg L (((zbd W)[n]).val : Int) W[(zbd W)[n]] lf' out := by unfold zfg; rw [hw]
    have hok' : FSOk (zfg L (((zbd W)[n]).val : Int) W[(zbd W)[n]] lf' out) := foldU_ok _ hok
    have hsm' : Small (zfg L (((zbd W)[n]).val : Int) W[(zbd W)[n]] lf' out) := zno _ hok hsm
    have gr := zl1 (i := (((zbd W)[n]).val : Int)) (w := wAt W ((zbd W)[n]).val) (rowOf L (wAt W ((zbd W)[n]).val)) (s := ⟨lf', W[(zbd W)[n]].Qty, out⟩)
    rw [e] at gr
    have rl := rowOf_le L (wAt W ((zbd W)[n]).val)
    refine rfill_want (st := ⟨lf', W[(zbd W)[n]].Qty, out⟩) s2 s3 hx hy f1 ((zbd W)[n]).2 hok hsm f4 (by simp only; omega) (by omega) o6 (fun h' hle hp => ?_) fun z' h' h0n o' => ?_
    ·rw [e] at hp
     rw [if_pos hp] at hf
     exact zk5 hle (hq.1 hf.symm)
    ·rw [e] at h0n o'
     rw [if_neg (by omega)] at hf
     exact hY (W.length - (n + 1)) _ _ (by omega) ⟨n + 1, z', _, _, by omega, rfl, o', ⟨hok'.left, hsm'.left⟩, by simp only at gr; omega, hf⟩
   ·rw [List.drop_eq_nil_of_le (by rw [zfp]; omega)] at hf
    exact zba (hq.2 out lf' hf.symm (by omega) hh z (o.sub (by simp)))
end Go.Ab
namespace Go.Ab
variable {C : CSem} {N : Nat → Nat}
def zdv.Spec (C : CSem) (N : Nat → Nat) : Prop := ∀ (x y z : AVal) (L : List Lot) (W : List Want) (M : List Part) (R S T : List (List AVal)) (d : Int) (h : za) (Q : AVal → za → Prop), SlX h 6 x (L.map Lot.cs) R → SlX h 3 y (W.map Want.cs) S → SlX h 2 z (M.map Part.cs) T →
 L.length < 4611686018427387904 → W.length + M.length ≤ 100000000 → Q (.bool (zfc L W M d)) h → C (N 331) [x, y, z, .int .i64 d] h Q
theorem zdv.spec (i : zdv.Imp C N) (s1 : zu.Spec C N) : zdv.Spec C N := by
 intro x y z L W M R S T d h Q hx hy hz hl1 hl2 hq
 apply i
 have ez := hz.zcj
 rw [List.length_map] at ez
 simp -dsimp only [zdv.cps]
 refine ((Owns.start h).sz 3).appW 0 rfl hy (by omega) (by simp; omega) (by simp [maxLen]; omega) fun u h1 o1 _ => ?_
 have o1 : Owns h h1 [.sl 3 u ([] ++ W.map Want.cs) []] := o1
 rw [List.nil_append] at o1
 refine zm.intro (fun t vs hh => ∃ (k : Nat) (u : AVal), k + t = M.length ∧ vs = [u, .int .i64 (k : Int)] ∧ Owns h hh [.sl 3 u ((zdf W (M.take k) d).map Want.cs) []]) M.length ?_ ⟨0, u, by omega, rfl, by simpa [zdf] using o1⟩
 rintro Y t vs hh ⟨k, u, hkt, rfl, o⟩ hY
 have hzz := hz.mono o.le
 simp -dsimp only [zdv.l2, zdv.k1, ez, lssN, B.ze]
 refine B.zk (fun hb => ?_) (fun hb => ?_)
 ·rw [decide_eq_true_eq] at hb
  have hg : (M.map Part.cs)[k]? = some (M[k]).cs := by rw [List.getElem?_map, List.getElem?_eq_getElem hb]; rfl
  have hidx : V.idxS 2 z (.int .i64 (k : Int)) = some (elp 2 z k 0) := hzz.idxN (by simpa using hb)
  have f0 := hzz.zom (i := k) (by simpa using hb) 0 0
  have f1 := hzz.zom (i := k) (by simpa using hb) 0 1
  have l0 := hzz.ldv (i := k) (f := 0) hg (by omega)
  have l1 := hzz.ldv (i := k) (f := 1) hg (by omega)
  have e2 : (zdf W (M.take (k + 1)) d).map Want.cs = (zdf W (M.take k) d).map Want.cs ++ [[.str (M[k]).Item, .int .i64 d, .int .i64 (M[k]).Qty]] := by rw [zps hb, List.map_append]; rfl
  have hwl : (zdf W (M.take k) d).length ≤ W.length + k := by unfold zdf; simp; omega
  simp -dsimp [hidx, f0, f1, l0, l1]
  refine o.push (bytes := 32) 0 rfl (cs := [.str (M[k]).Item, .int .i64 d, .int .i64 (M[k]).Qty]) rfl (by omega) (by rw [List.length_map]; omega) (by rw [List.length_map]; simp only [maxLen]; omega) fun u' h2 o2 _ => ?_
  simp -dsimp only [add1 (show k < 4611686018427387904 by omega), B.ze]
  exact hY (t - 1) _ _ (by omega) ⟨k + 1, u', by omega, rfl, by rw [e2]; exact o2⟩
 ·rw [decide_eq_false_iff_not] at hb
  have hk : k = M.length := by omega
  subst hk
  rw [List.take_length] at o
  refine s1 _ _ _ _ _ _ _ _ (hx.mono o.le) (o.slAt 0 rfl) hl1 (by unfold zdf; simp; omega) ⟨fun hn => ?_, fun us lf he _ h' x' o' => ?_⟩
  ·simp -dsimp only [V.zjy, List.getElem?_cons_zero, List.getElem?_cons_succ, B.ze]
   rw [zfc, hn] at hq
   exact zk5 o.le hq
  ·simp -dsimp only [V.zjy, List.getElem?_cons_zero, List.getElem?_cons_succ, B.ze]
   rw [zfc, he] at hq
   exact zk5 (za.le_trans o.le o'.le) hq
def zhp (L : List Lot) (W : List Want) (M : List Part) (d : Int) : Nat → Int × Bool
 | 0 => (0, false)
 | n + 1 => if zfc L W M d then (d, true) else zhp L W M (d + 1) n
def zd3.Spec (C : CSem) (N : Nat → Nat) : Prop := ∀ (x y z : AVal) (L : List Lot) (W : List Want) (M : List Part) (R S T : List (List AVal)) (a b : Int) (h : za) (Q : AVal → za → Prop), SlX h 6 x (L.map Lot.cs) R → SlX h 3 y (W.map Want.cs) S → SlX h 2 z (M.map Part.cs) T →
 L.length < 4611686018427387904 → W.length + M.length ≤ 100000000 → Q (.tup [.int .i64 (zhp L W M (max a 0) (min b 4000 - max a 0 + 1).toNat).1, .bool (zhp L W M (max a 0) (min b 4000 - max a 0 + 1).toNat).2]) h → C (N 321) [x, y, z, .int .i64 a, .int .i64 b] h Q
theorem zd3.spec (i : zd3.Imp C N) (s1 : zdv.Spec C N) : zd3.Spec C N := by
 intro x y z L W M R S T a b h Q hx hy hz hl1 hl2 hq
 apply i
 have hmx : V.max2 (.int .i64 a) (.int .i64 0) = some (.int .i64 (max a 0)) := by simp [V.max2]; omega
 simp -dsimp only [zd3.cps, hmx, B.ze]
 refine zm.intro (fun t vs hh => hh = h ∧ ∃ d : Int, t = (min b 4000 - d + 1).toNat ∧ vs = [.int .i64 d] ∧ 0 ≤ d ∧ zhp L W M d t = zhp L W M (max a 0) (min b 4000 - max a 0 + 1).toNat) _ ?_ ⟨rfl, max a 0, rfl, rfl, by omega, rfl⟩
 rintro Y t vs hh ⟨rfl, d, ht, rfl, hd0, he⟩ hY
 rw [← he] at hq
 simp -dsimp only [zd3.l2, zd3.k1, V.bin_leq, B.ze]
 by_cases hle : d ≤ min b 4000
 ·have h1 : d ≤ b := by omega
  have h2 : d ≤ 4000 := by omega
  simp -dsimp [h1, h2]
  refine s1 _ _ _ _ _ _ _ _ _ _ _ _ hx hy hz hl1 hl2 ?_
  obtain ⟨t', rfl⟩ : ∃ t', t = t' + 1 := ⟨t - 1, by omega⟩
  refine B.zk (fun hc => ?_) (fun hc => ?_)
  ·simp only [zhp, hc, if_true] at hq
   exact zba hq
  ·have e1 : V.bin .add (.int .i64 d) (.int .i64 1) = some (.int .i64 (d + 1)) := by rw [V.znv, wrap_i64 (by omega) (by omega)]
   simp -dsimp only [e1, B.ze]
   refine hY t' _ _ (by omega) ⟨rfl, d + 1, by omega, rfl, by omega, ?_⟩
   rw [← he]
   simp only [zhp, hc, Bool.false_eq_true, if_false]
 ·have t0 : t = 0 := by omega
  subst t0
  have : ¬ (d ≤ b ∧ d ≤ 4000) := by omega
  by_cases h1 : d ≤ b
  ·have h2 : ¬ d ≤ 4000 := fun h => this ⟨h1, h⟩
   simp -dsimp [h1, h2]
   exact zba hq
  ·simp -dsimp [h1]
   exact zba hq
def zk6 (L : List Lot) (W : List Want) (M : List Part) (a b : Int) (j : Nat) : Bool := decide (max a 0 ≤ (j : Int)) && decide ((j : Int) ≤ min b 4000) && zfc L W M j
def zc3.Spec (C : CSem) (N : Nat → Nat) : Prop := ∀ (x y z : AVal) (L : List Lot) (W : List Want) (M : List Part) (R S T : List (List AVal)) (a b : Int) (h : za) (Q : AVal → za → Prop), SlX h 6 x (L.map Lot.cs) R → SlX h 3 y (W.map Want.cs) S → SlX h 2 z (M.map Part.cs) T →
 L.length < 4611686018427387904 → W.length + M.length ≤ 100000000 → (∀ v h', Owns h h' [.sl 2 v ((ofTo (zk6 L W M a b) 4001).map zbz.cs) []] → Q v h') → C (N 323) [x, y, z, .int .i64 a, .int .i64 b] h Q
theorem zc3.spec (i : zc3.Imp C N) (s1 : zdv.Spec C N) (s2 : zem.Spec C N) : zc3.Spec C N := by
 intro x y z L W M R S T a b h Q hx hy hz hl1 hl2 hq
 apply i
 have hmx : V.max2 (.int .i64 a) (.int .i64 0) = some (.int .i64 (max a 0)) := by simp [V.max2]; omega
 simp -dsimp only [zc3.cps, zc3.k3]
 refine ⟨by omega, (Owns.start h).mks rfl (by omega) (by omega) (by omega) (by omega) fun v h1 o1 => ?_⟩
 have o1 : Owns h h1 [.sl 1 v (zg9 4001 fun _ => [.bool false]) []] := o1
 simp -dsimp only [hmx, B.ze]
 refine zm.intro (fun t vs hh => ∃ k : Nat, t = (min b 4000 - k + 1).toNat ∧ vs = [.int .i64 (k : Int)] ∧ max a 0 ≤ (k : Int) ∧ Owns h hh [.sl 1 v (bools 4001 fun j => zk6 L W M a b j && decide (j < k)) []]) _ ?_ ⟨(max a 0).toNat, rfl, by rw [show (((max a 0).toNat : Nat) : Int) = max a 0 by omega], by omega, ?_⟩
 rotate_left
 ·have : (zg9 4001 fun _ => [AVal.bool false]) = bools 4001 fun j => zk6 L W M a b j && decide (j < (max a 0).toNat) := zf2 fun j _ => by
   have : (zk6 L W M a b j && decide (j < (max a 0).toNat)) = false := by
    unfold zk6
    by_cases hj : max a 0 ≤ (j : Int)
    ·rw [show decide (j < (max a 0).toNat) = false by rw [decide_eq_false_iff_not]; omega, Bool.and_false]
    ·simp [hj]
   exact congrArg (fun q => [AVal.bool q]) this.symm
  rw [← this]; exact o1
 rintro Y t vs hh ⟨k, rfl, rfl, hk, o⟩ hY
 simp -dsimp only [zc3.l2, zc3.k1, V.bin_leq, B.ze]
 have stop : min b 4000 < (k : Int) → B.call C (N 19) [v] hh fun v34 h => dn Q v34 h := fun hlt => by
  refine s2 _ _ _ _ _ _ (o.slAt 0 rfl) (by omega) fun v' h' o' => zba (hq v' h' ?_)
  rw [zpe fun j hj => show zk6 L W M a b j = (zk6 L W M a b j && decide (j < k)) from ?_]
  ·exact o'.back o.le
  ·by_cases hjk : j < k
   ·simp [hjk]
   ·have : zk6 L W M a b j = false := by
     unfold zk6
     rw [show decide ((j : Int) ≤ min b 4000) = false by rw [decide_eq_false_iff_not]; omega]; simp
    simp [this]
 by_cases hle : (k : Int) ≤ min b 4000
 ·have h1 : (k : Int) ≤ b := by omega
  have h2 : (k : Int) ≤ 4000 := by omega
  simp -dsimp [h1, h2]
  refine s1 _ _ _ _ _ _ _ _ _ _ _ _ (hx.mono o.le) (hy.mono o.le) (hz.mono o.le) hl1 hl2 ?_
  have hidx : V.idxS 1 v (.int .i64 (k : Int)) = some (elp 1 v k 0) := (o.slAt 0 rfl).idxN (by simp; omega)
  simp -dsimp only [hidx, add1 (show k < 4611686018427387904 by omega), B.ze]
  refine o.st 0 rfl (zgy _ (show k < 4001 by omega)) (by omega) rfl fun h2 o2 _ => ?_
  rw [B.pv]
  have e1 := add1 (show k < 4611686018427387904 by omega)
  refine (show A.pv (V.bin .add (.int .i64 (k : Int)) (.int .i64 1)) _ from ?_)
  rw [e1]
  refine hY _ _ _ (by omega) ⟨k + 1, rfl, rfl, by omega, ?_⟩
  have o2 : Owns h h2 [.sl 1 v ((bools 4001 fun j => zk6 L W M a b j && decide (j < k)).set k [.bool (zfc L W M k)]) []] := o2
  rw [show ((bools 4001 fun j => zk6 L W M a b j && decide (j < k)).set k [.bool (zfc L W M k)]) = bools 4001 fun j => zk6 L W M a b j && decide (j < k + 1) from by
   rw [bools, zli]
   refine zf2 fun j hj => ?_
   by_cases e : j = k
   ·subst e
    have : zk6 L W M a b j = zfc L W M j := by unfold zk6; simp; omega
    simp [this]
   ·rw [if_neg e]
    congr 3
    rw [decide_eq_decide]; omega] at o2
  exact o2
 ·by_cases h1 : (k : Int) ≤ b
  ·have h2 : ¬ (k : Int) ≤ 4000 := by omega
   simp -dsimp [h1, h2]
   exact stop (by omega)
  ·simp -dsimp [h1]
   exact stop (by omega)
end Go.Ab
namespace Go.Ab
variable {C : CSem} {N : Nat → Nat}
def cov (L : List zbz) (d : Nat) : Bool := L.any fun w => decide (w.From ≤ d) && decide ((d : Int) < w.zel)
def rrows (L : List zbz) : List zbz := if L.all zbz.right then ofTo (cov L) 4001 else []
end Go.Ab
namespace Go.Ab
theorem opn_cov (L : List zbz) (hL : ∀ w ∈ L, w.right = true) (d : Nat) : 0 < opn L (d + 1) ↔ cov L d = true := by
 rw [opn_eq L hL]
 have key : (L.countP fun w => decide (w.From < ((d + 1 : Nat) : Int))) = (L.countP fun w => decide (w.zel < ((d + 1 : Nat) : Int))) + L.countP fun w => decide (w.From ≤ (d : Int)) && decide ((d : Int) < w.zel) := by
  induction L with
  | nil => rfl
  | cons w r ih =>
   have ih := ih fun w hw => hL w (by simp [hw])
   have hw := hL w (by simp)
   simp only [zbz.right, Bool.and_eq_true, decide_eq_true_eq] at hw
   simp only [List.countP_cons, Bool.and_eq_true, decide_eq_true_eq]
   rw [ih]
   split <;> split <;> split <;> omega
 have h2 : cov L d = true ↔ 0 < L.countP fun w => decide (w.From ≤ (d : Int)) && decide ((d : Int) < w.zel) := by
  rw [List.countP_pos_iff]; simp [cov, List.any_eq_true]
 rw [h2]
 omega
theorem rows_of (L : List zbz) (hL : ∀ w ∈ L, w.right = true) : ∀ d, (0 < opn L d → ∃ S w, ofTo (cov L) d = S ++ [w] ∧ w.zel = (d : Int) ∧ ze1 L d = S ++ [⟨w.From, 0⟩]) ∧
  (opn L d = 0 → ze1 L d = ofTo (cov L) d ∧ ∀ w ∈ (ofTo (cov L) d).getLast?, w.zel < (d : Int))
 | 0 => ⟨fun h => by simp [opn] at h, fun _ => ⟨rfl, by simp [ofTo]⟩⟩
 | d + 1 => by
  obtain ⟨i1, i2⟩ := rows_of L hL d
  have p0 := zs6 L hL d
  have p1 := zs6 L hL (d + 1)
  have hc := opn_cov L hL d
  by_cases h0 : opn L d = 0
  ·obtain ⟨e, hl⟩ := i2 h0
   by_cases h1 : 0 < opn L (d + 1)
   ·refine ⟨fun _ => ⟨ofTo (cov L) d, ⟨d, d + 1⟩, ?_, by simp, ?_⟩, fun h => by omega⟩
    ·simp only [ofTo, zji, hc.1 h1, if_true]
     rw [if_neg]
     rintro ⟨hne, hlast⟩
     rw [List.getLast?_eq_some_getLast hne] at hlast hl
     have := hl _ rfl
     simp at hlast
     omega
    ·simp only [ze1, zjs]
     rw [if_pos ⟨h0, h1⟩, e]
   ·refine ⟨fun h => absurd h h1, fun _ => ?_⟩
    have hf : cov L d = false := by rw [← Bool.not_eq_true]; exact fun hh => h1 (hc.2 hh)
    have e1 : ofTo (cov L) (d + 1) = ofTo (cov L) d := by simp [ofTo, zji, hf]
    have e2 : ze1 L (d + 1) = ze1 L d := by simp only [ze1, zjs]; rw [if_neg (by omega), if_neg (by omega)]
    rw [e1, e2]
    exact ⟨e, fun w hw => by have := hl w hw; omega⟩
  ·obtain ⟨S, w, e1, e2, e3⟩ := i1 (by omega)
   by_cases h1 : 0 < opn L (d + 1)
   ·refine ⟨fun _ => ⟨S, ⟨w.From, d + 1⟩, ?_, by simp, ?_⟩, fun h => by omega⟩
    ·simp only [ofTo, zji, hc.1 h1, if_true]
     rw [e1, if_pos ⟨by simp, by simp [e2]⟩]
     simp
    ·simp only [ze1, zjs]
     rw [if_neg (by omega), if_neg (by omega), e3]
   ·refine ⟨fun h => absurd h h1, fun _ => ?_⟩
    have hf : cov L d = false := by rw [← Bool.not_eq_true]; exact fun hh => h1 (hc.2 hh)
    have e4 : ofTo (cov L) (d + 1) = ofTo (cov L) d := by simp [ofTo, zji, hf]
    have e5 : ze1 L (d + 1) = S ++ [w] := by
     simp only [ze1, zjs]
     rw [if_neg (by omega), if_pos (by omega), e3]
     simp [← e2]
    rw [e4, e5, e1]
    exact ⟨rfl, fun z hz => by simp at hz; subst hz; omega⟩
theorem rows_eq (L : List zbz) : rows L = rrows L := by
 unfold rows rrows
 split
 ·rename_i ha
  have hL := List.all_eq_true.1 ha
  have hf : cov L 4001 = false := by
   rw [← Bool.not_eq_true]
   intro h
   obtain ⟨w, hw, h2⟩ := List.any_eq_true.1 h
   have := hL w hw
   simp [zbz.right] at this h2
   omega
  have h0 : opn L 4002 = 0 := by
   have h1 := zs6 L hL 4002
   have h2 := opn_cov L hL 4001
   rw [hf] at h2
   have : ¬ 0 < opn L (4001 + 1) := fun h => by have := h2.1 h; cases this
   have : ¬ 0 < opn L 4002 := this
   omega
  rw [((rows_of L hL 4002).2 h0).1]
  show zji (cov L) (ofTo (cov L) 4001) 4001 = _
  simp [zji, hf]
 ·rfl
theorem ofTo_span {p : Nat → Bool} {a b : Nat} : ∀ n, (∀ d, d < n → (p d = true ↔ a ≤ d ∧ d < b)) → ofTo p n = if a < min b n then [⟨a, (min b n : Nat)⟩] else []
 | 0, _ => by simp [ofTo]
 | n + 1, h => by
  have ih := ofTo_span n fun d hd => h d (by omega)
  have hn := h n (by omega)
  simp only [ofTo, zji, ih]
  by_cases hp : p n = true
  ·have h1 := hn.1 hp
   rw [if_pos hp]
   have e' : min b (n + 1) = n + 1 := by omega
   by_cases h2 : a < n
   ·have e : min b n = n := by omega
    have c1 : a < n + 1 := by omega
    simp [e, e', h2, c1]
   ·have c2 : ¬ a < min b n := by omega
    have c1 : a < n + 1 := by omega
    have e : a = n := by omega
    rw [if_neg c2, e', if_pos c1]
    simp [e]
  ·have h1 : ¬ (a ≤ n ∧ n < b) := fun hh => hp (hn.2 hh)
   rw [if_neg hp]
   by_cases h2 : a < min b n
   ·rw [if_pos h2, if_pos (by omega)]
    congr 2; omega
   ·rw [if_neg h2, if_neg (by omega)]
end Go.Ab
namespace Go.Ab
theorem rows_ok {L : List zbz} (hL : ∀ w ∈ L, w.right = true) : rows L = ofTo (cov L) 4001 := by
 rw [rows_eq]; unfold rrows; rw [if_pos (List.all_eq_true.2 hL)]
end Go.Ab
set_option maxRecDepth 100000
namespace Go.Ab
variable {C : CSem} {N : Nat → Nat}
theorem meet_spec (a b : zbz) : (∃ f u, meet a b = (⟨f, u⟩, true) ∧ f < u ∧ f = max a.From b.From ∧ u = min a.zel b.zel ∧ a.right = true ∧ b.right = true) ∨
  (meet a b = (.zero, false) ∧ (a.right = true → b.right = true → min a.zel b.zel ≤ max a.From b.From)) := by
 unfold meet
 by_cases h : (a.right && b.right) = true
 ·rw [if_pos h]
  simp only [Bool.and_eq_true] at h
  unfold within
  by_cases h2 : min a.zel b.zel ≤ max a.From b.From
  ·rw [if_pos h2]; exact .inr ⟨rfl, fun _ _ => h2⟩
  ·rw [if_neg h2]; exact .inl ⟨_, _, rfl, by omega, rfl, rfl, h.1, h.2⟩
 ·rw [if_neg h]
  exact .inr ⟨rfl, fun h1 h2 => by rw [h1, h2] at h; exact absurd rfl h⟩
theorem zrc (w : zbz) : w.right = true ↔ 0 ≤ w.From ∧ w.From ≤ w.zel ∧ w.zel ≤ 4001 := by
 simp [zbz.right, and_assoc]
end Go.Ab
namespace Go.Ab
theorem zgb {W : List Want} {M : List Part} {d : Int} : (zdf W M d).length = W.length + M.length := by unfold zdf; simp
theorem zsu {W : List Want} {M : List Part} {d : Int} {i : Nat} (h : i < (zdf W M d).length) : (i < W.length ∧ ∀ e, wAt (zdf W M e) i = wAt W i) ∨ (∃ p ∈ M, ∀ e, wAt (zdf W M e) i = ⟨p.Item, e, p.Qty⟩) := by
 rw [zgb] at h
 by_cases hi : i < W.length
 ·left
  refine ⟨hi, fun e => ?_⟩
  rw [ziv hi, ziv (by rw [zgb]; omega)]
  unfold zdf
  rw [List.getElem_append_left hi]
 ·right
  have hj : i - W.length < M.length := by omega
  refine ⟨M[i - W.length], List.getElem_mem hj, fun e => ?_⟩
  rw [ziv (by rw [zgb]; omega)]
  unfold zdf
  rw [List.getElem_append_right (by omega), List.getElem_map]
theorem wantsOn_right {W : List Want} {M : List Part} {d e : Int} (he : 0 ≤ e ∧ e ≤ 4000) (h : ∀ w ∈ zdf W M d, zep w = true) : ∀ w ∈ zdf W M e, zep w = true := fun w hw => by
 unfold zdf at h hw
 rcases List.mem_append.1 hw with hw | hw
 ·exact h w (List.mem_append_left _ hw)
 ·obtain ⟨p, hp, rfl⟩ := List.mem_map.1 hw
  have := h _ (List.mem_append_right _ (List.mem_map_of_mem hp))
  simp only [zep, Bool.and_eq_true, decide_eq_true_eq] at this ⊢
  exact ⟨⟨⟨⟨this.1.1.1.1, he.1⟩, he.2⟩, this.1.2⟩, this.2⟩
theorem canHad_may {L : List Lot} {W : List Want} {M : List Part} {d : Int} (h : zfc L W M d = true) : zgs L (zdf W M d) = true := greedy_may h
theorem zqd {L : List Lot} {W : List Want} {M : List Part} {d e : Int} (he : 0 ≤ e ∧ e ≤ 4000) (hs : (∀ l ∈ L, ze7 l = true) → ∀ l ∈ L, zbz.has ⟨l.From, l.zel⟩ d = true → zbz.has ⟨l.From, l.zel⟩ e = true) (h : zfc L W M d = true) : zfc L W M e = true := by
 have hm := canHad_may h
 obtain ⟨f1, f2, f3, f4, f5⟩ := mayBe_iff.1 hm
 have hm' : zgs L (zdf W M e) = true := mayBe_iff.2 ⟨f1, by rw [zgb] at f2 ⊢; exact f2, f3, f4, wantsOn_right he f5⟩
 have hh := (zrx hm).1 h
 refine (zrx hm').2 fun S => ?_
 have e1 : zk3 (zdf W M e) (zew L (zdf W M e)).need S = zk3 (zdf W M d) (zew L (zdf W M d)).need S := by
  unfold zk3
  rw [zgb, zgb]
  refine zha fun i hi => ?_
  have hi := List.mem_range.1 hi
  rcases zsu (M := M) (d := d) (i := i) (W := W) (by rw [zgb]; exact hi) with ⟨_, hw⟩ | ⟨p, _, hw⟩
  ·simp only [zew, hw]
  ·simp only [zew, hw]
 rw [e1]
 refine Int.le_trans (hh S) ?_
 unfold zni
 refine sumF_le fun l hl => ?_
 have h0 : 0 ≤ (zew L (zdf W M d)).left l.Id := (zke hm).left _
 have : (zew L (zdf W M e)).left l.Id = (zew L (zdf W M d)).left l.Id := rfl
 rw [this]
 cases hn : nS (zdf W M d) S l with
 | false => simp only [cond_false]; cases nS (zdf W M e) S l <;> simp only [cond_false, cond_true] <;> omega
 | true =>
  have : nS (zdf W M e) S l = true := by
   unfold nS at hn
   rw [List.any_eq_true] at hn
   obtain ⟨i, hi, hi2⟩ := hn
   have hi := List.mem_range.1 hi
   rw [Bool.and_eq_true] at hi2
   refine nS_of (i := i) (by rw [zgb] at hi ⊢; exact hi) hi2.1 ?_
   have hsv := zeo.1 hi2.2
   rcases zsu hi with ⟨_, hw⟩ | ⟨p, _, hw⟩
   ·rw [hw] at hsv ⊢; exact hi2.2 |> fun _ => zeo.2 hsv
   ·rw [hw] at hsv ⊢
    exact zeo.2 ⟨hsv.1, hs f3 l hl hsv.2⟩
  rw [this]; exact Int.le_refl _
theorem has_iff {f u d : Int} : zbz.has ⟨f, u⟩ d = true ↔ (0 ≤ f ∧ f ≤ u ∧ u ≤ 4001) ∧ f ≤ d ∧ d < u := by
 simp only [zbz.has, zbz.right, Bool.and_eq_true, decide_eq_true_eq, and_assoc]
theorem zsb {L : List Lot} {W : List Want} {M : List Part} {a b d : Int} (ha : 0 ≤ a) (hb : b ≤ 4000) (h1 : a < d) (h2 : d ≤ b) (hn : d ∉ zfh a b L) : zfc L W M d = zfc L W M (d - 1) := by
 have key : (∀ l ∈ L, ze7 l = true) → ∀ l ∈ L, l.From ≠ d ∧ l.zel ≠ d := fun hr l hl => by
  obtain ⟨_, _, _, _, wr, lt⟩ := zjv (hr l hl)
  have wr' := wr
  rw [zrc] at wr'
  have hw : zbz.right ⟨a, b + 1⟩ = true := (zrc _).2 ⟨ha, by simp only; omega, by simp only; omega⟩
  simp only at wr'
  have ins : ∀ c, c ∈ zkv ⟨a, b + 1⟩ l → c ∈ zfh a b L := fun c hc => List.mem_append_right _ (List.mem_flatMap.2 ⟨l, hl, hc⟩)
  have me : max l.From a < min l.zel (b + 1) → zkv ⟨a, b + 1⟩ l = [max l.From a, min l.zel (b + 1)] := fun hlt => by
   unfold zkv meet within
   rw [wr, hw]
   simp only [Bool.and_self, if_true]
   rw [if_neg (by omega)]
  constructor
  ·intro e
   refine hn (ins d ?_)
   rw [me (by omega)]
   refine List.mem_cons.2 (.inl (by omega))
  ·intro e
   refine hn (ins d ?_)
   rw [me (by omega)]
   refine List.mem_cons_of_mem _ (List.mem_singleton.2 (by omega))
 rw [Bool.eq_iff_iff]
 constructor
 ·refine zqd (by omega) fun hr l hl hh => ?_
  have := key hr l hl
  rw [has_iff] at hh ⊢; omega
 ·refine zqd (by omega) fun hr l hl hh => ?_
  have := key hr l hl
  rw [has_iff] at hh ⊢; omega
theorem zll {d : Int} : ∀ {l : List Int}, d ∈ zev l ↔ d ∈ l
 | [] => Iff.rfl
 | [a] => Iff.rfl
 | a :: b :: r => by
  have ih := zll (d := d) (l := b :: r)
  simp only [zev]
  split
  ·rename_i e; subst e
   rw [ih]; simp
  ·rw [List.mem_cons, ih, List.mem_cons (b := a)]
theorem zr8 : ∀ {l : List Int}, l.Pairwise (fun s t => s ≤ t) → (zev l).Pairwise (fun s t => s < t)
 | [], _ => .nil
 | [a], _ => List.pairwise_singleton _ _
 | a :: b :: r, h => by
  have ih := zr8 (List.pairwise_cons.1 h).2
  simp only [zev]
  split
  ·exact ih
  ·rename_i e
   refine List.pairwise_cons.2 ⟨fun c hc => ?_, ih⟩
   have h1 := (List.pairwise_cons.1 h).1
   have h2 := (List.pairwise_cons.1 (List.pairwise_cons.1 h).2).1
   have hab := h1 b (List.mem_cons_self ..)
   rcases List.mem_cons.1 (zll.1 hc) with rfl | hc
   ·omega
   ·have := h2 c hc; omega
theorem zos {a b : Int} {L : List Lot} {d : Int} : d ∈ cuts a b L ↔ d ∈ zfh a b L := by
 unfold cuts
 rw [zll, (zj3 _).mem_iff]
theorem cuts_up (a b : Int) (L : List Lot) : (cuts a b L).Pairwise (fun s t => s < t) := zr8 (zlc _)
theorem ends_in {a b : Int} (hab : a ≤ b) {L : List Lot} {d : Int} (h : d ∈ zfh a b L) : a ≤ d ∧ d ≤ b + 1 := by
 unfold zfh at h
 rcases List.mem_append.1 h with h | h
 ·simp only [List.mem_cons, List.not_mem_nil, or_false] at h; omega
 ·obtain ⟨l, _, h⟩ := List.mem_flatMap.1 h
  unfold zkv at h
  rcases meet_spec ⟨l.From, l.zel⟩ ⟨a, b + 1⟩ with ⟨f, u, e, h1, h2, h3, _, _⟩ | e
  ·rw [e] at h
   simp only [List.mem_cons, List.not_mem_nil, or_false] at h h2 h3
   omega
  ·rw [e.1] at h; simp at h
inductive Chain (b : Int) : List Int → Int → Prop
 | last : Chain b [b + 1] (b + 1)
 | more {u v : Int} {r : List Int} (h : u < v) (c : Chain b (v :: r) v) : Chain b (u :: v :: r) u
theorem chain_of {b : Int} : ∀ {l : List Int} {u : Int}, l.Pairwise (fun s t => s < t) → (∀ d ∈ l, u ≤ d ∧ d ≤ b + 1) → u ∈ l → b + 1 ∈ l → Chain b l u
 | [], u, _, _, h, _ => by cases h
 | [c], u, _, _, h, h' => by
  have e1 := List.mem_singleton.1 h
  have e2 := List.mem_singleton.1 h'
  subst e1; subst e2; exact .last
 | c :: d :: r, u, hp, hb, h, h' => by
  have hp' := List.pairwise_cons.1 hp
  have hc := hb c (List.mem_cons_self ..)
  have e : u = c := by
   rcases List.mem_cons.1 h with e | h
   ·exact e
   ·have := hp'.1 u h; omega
  subst e
  have hcd := hp'.1 d (List.mem_cons_self ..)
  refine .more hcd (chain_of hp'.2 (fun x hx => ⟨?_, (hb x (List.mem_cons_of_mem _ hx)).2⟩) (List.mem_cons_self ..) ?_)
  ·rcases List.mem_cons.1 hx with rfl | hx
   ·exact Int.le_refl _
   ·have := (List.pairwise_cons.1 hp'.2).1 x hx; omega
  ·rcases List.mem_cons.1 h' with e | h'
   ·have := (hb d (List.mem_cons_of_mem _ (List.mem_cons_self ..))).2; omega
   ·exact h'
theorem zpm {a b : Int} (hab : a ≤ b) (L : List Lot) : Chain b (cuts a b L) a :=
 chain_of (cuts_up a b L) (fun d hd => ends_in hab (zos.1 hd)) (zos.2 (by unfold zfh; simp)) (zos.2 (by unfold zfh; simp))
theorem Chain.le {b : Int} : ∀ {l : List Int} {u : Int}, Chain b l u → u ≤ b + 1 ∧ ∀ d ∈ l, u ≤ d ∧ d ≤ b + 1
 | _, _, .last => ⟨Int.le_refl _, fun d hd => by rw [List.mem_singleton.1 hd]; exact ⟨Int.le_refl _, Int.le_refl _⟩⟩
 | _, _, .more h c => by
  have ih := c.le
  refine ⟨by omega, fun d hd => ?_⟩
  rcases List.mem_cons.1 hd with rfl | hd
  ·omega
  ·have := ih.2 d hd; omega
theorem alike {f : Int → Bool} {u v : Int} (h : ∀ d, u < d → d < v → f d = f (d - 1)) : ∀ n : Nat, u + (n : Int) < v → f (u + (n : Int)) = f u
 | 0, _ => by simp
 | n + 1, hn => by
  have ih := alike h n (by omega)
  rw [h (u + ((n + 1 : Nat) : Int)) (by omega) hn, show u + ((n + 1 : Nat) : Int) - 1 = u + (n : Int) by omega, ih]
theorem alike_in {f : Int → Bool} {u v d : Int} (h : ∀ d, u < d → d < v → f d = f (d - 1)) (h1 : u ≤ d) (h2 : d < v) : f d = f u := by
 have := alike h (d - u).toNat (by omega)
 rw [show u + ((d - u).toNat : Int) = d by omega] at this; exact this
theorem zqc {L : List Lot} {W : List Want} {M : List Part} : ∀ (k n : Nat) (u : Int), (∀ d, u ≤ d → d < u + (k : Int) → zfc L W M d = false) → zhp L W M u (k + n) = zhp L W M (u + (k : Int)) n
 | 0, n, u, _ => by simp
 | k + 1, n, u, h => by
  rw [show k + 1 + n = (k + n) + 1 by omega]
  simp only [zhp]
  rw [h u (Int.le_refl _) (by omega)]
  simp only [Bool.false_eq_true, if_false]
  rw [zqc k n (u + 1) fun d h1 h2 => h d (by omega) (by omega), show u + 1 + (k : Int) = u + ((k + 1 : Nat) : Int) by omega]
theorem chain_day {L : List Lot} {W : List Want} {M : List Part} {b : Int} : ∀ {l : List Int} {u : Int}, Chain b l u → (∀ d, u < d → d ≤ b → d ∉ l → zfc L W M d = zfc L W M (d - 1)) →
  (match (l.zip l.tail).find? fun p => zfc L W M p.1 with | some p => (p.1, true) | none => ((0 : Int), false)) = zhp L W M u (b + 1 - u).toNat
 | _, _, .last, _ => by simp [zhp]
 | _, _, .more (u := u) (v := v) (r := r) h c, ha => by
  have hc := c.le
  have hin : ∀ d, u < d → d < v → zfc L W M d = zfc L W M (d - 1) := fun d h1 h2 => ha d h1 (by omega) fun hm => by
   rcases List.mem_cons.1 hm with e | hm
   ·omega
   ·have := hc.2 d hm; omega
  simp only [List.tail_cons, List.zip_cons_cons, List.find?_cons]
  cases hu : zfc L W M u with
  | true =>
   obtain ⟨n, hn⟩ : ∃ n, (b + 1 - u).toNat = n + 1 := ⟨(b + 1 - u).toNat - 1, by omega⟩
   rw [hn]
   simp only [zhp, hu, if_true]
  | false =>
   have ih := chain_day c fun d h1 h2 hm => ha d (by omega) h2 fun hm' => by
    rcases List.mem_cons.1 hm' with e | hm'
    ·omega
    ·exact hm hm'
   simp only [List.tail_cons] at ih
   have hk : (b + 1 - u).toNat = (v - u).toNat + (b + 1 - v).toNat := by omega
   rw [hk, zqc _ _ _ fun d h1 h2 => by rw [alike_in hin h1 (by omega)]; exact hu, show u + ((v - u).toNat : Int) = v by omega]
   exact ih
theorem dayOf_eq (L : List Lot) (W : List Want) (M : List Part) (a b : Int) : zor L W M a b = zhp L W M (max a 0) (min b 4000 - max a 0 + 1).toNat := by
 unfold zor zgp
 by_cases h : min b 4000 < max a 0
 ·rw [if_pos h, show (min b 4000 - max a 0 + 1).toNat = 0 by omega]
  rfl
 ·rw [if_neg h, show min b 4000 - max a 0 + 1 = min b 4000 + 1 - max a 0 by omega]
  exact chain_day (zpm (by omega) L) fun d h1 h2 hm => zsb (a := max a 0) (b := min b 4000) (by omega) (by omega) h1 h2 fun hh => hm (zos.2 hh)
theorem chain_any {L : List Lot} {W : List Want} {M : List Part} {b : Int} (x : Int) : ∀ {l : List Int} {u : Int}, Chain b l u → (∀ d, u < d → d ≤ b → d ∉ l → zfc L W M d = zfc L W M (d - 1)) →
  ((l.zip l.tail).any fun p => zfc L W M p.1 && (decide (p.1 ≤ x) && decide (x < p.2))) = (decide (u ≤ x) && decide (x ≤ b) && zfc L W M x)
 | _, _, .last, _ => by
  simp only [List.tail_cons, List.zip_nil_right, List.any_nil]
  by_cases h : b + 1 ≤ x
  ·rw [show decide (x ≤ b) = false by rw [decide_eq_false_iff_not]; omega]; simp
  ·simp [h]
 | _, _, .more (u := u) (v := v) (r := r) h c, ha => by
  have hc := c.le
  have hin : ∀ d, u < d → d < v → zfc L W M d = zfc L W M (d - 1) := fun d h1 h2 => ha d h1 (by omega) fun hm => by
   rcases List.mem_cons.1 hm with e | hm
   ·omega
   ·have := hc.2 d hm; omega
  have ih := chain_any x c fun d h1 h2 hm => ha d (by omega) h2 fun hm' => by
   rcases List.mem_cons.1 hm' with e | hm'
   ·omega
   ·exact hm hm'
  simp only [List.tail_cons, List.zip_cons_cons, List.any_cons] at ih ⊢
  rw [ih]
  by_cases h1 : u ≤ x ∧ x < v
  ·rw [← alike_in hin h1.1 h1.2]
   have h2 : ¬ v ≤ x := by omega
   have h3 : x ≤ b := by omega
   simp [h1.1, h1.2, h2, h3]
  ·have h2 : (decide (u ≤ x) && decide (x < v)) = false := by
    rw [Bool.eq_false_iff]
    simp only [ne_eq, Bool.and_eq_true, decide_eq_true_eq]
    exact h1
   rw [h2, Bool.and_false, Bool.false_or]
   by_cases h3 : v ≤ x
   ·have h4 : u ≤ x := by omega
    simp [h3, h4]
   ·have h4 : ¬ u ≤ x := by omega
    simp [h3, h4]
theorem okSpans_right {L : List Lot} {W : List Want} {M : List Part} {a b : Int} : ∀ w ∈ zfk L W M (zgp a b L), w.right = true := fun w hw => by
 unfold zfk at hw
 obtain ⟨p, hp, rfl⟩ := List.mem_map.1 hw
 have hp := (List.mem_filter.1 hp).1
 unfold zgp at hp
 split at hp
 ·cases hp
 ·rename_i h
  have hc := (zpm (a := max a 0) (b := min b 4000) (by omega) L).le.2
  obtain ⟨i, hi, e⟩ := List.getElem_of_mem hp
  have hz : i < (cuts (max a 0) (min b 4000) L).length ∧ i + 1 < (cuts (max a 0) (min b 4000) L).length := by
   simp at hi; omega
  have h1 := hc _ (List.getElem_mem hz.1)
  have h2 := hc _ (List.getElem_mem hz.2)
  have hup := (List.pairwise_iff_getElem.1 (cuts_up (max a 0) (min b 4000) L)) i (i + 1) hz.1 hz.2 (by omega)
  have e1 : p.1 = (cuts (max a 0) (min b 4000) L)[i] := by rw [← e]; simp
  have e2 : p.2 = (cuts (max a 0) (min b 4000) L)[i + 1] := by rw [← e]; simp
  rw [zrc]
  simp only
  omega
theorem okSpans_cov {L : List Lot} {W : List Want} {M : List Part} {a b : Int} (j : Nat) : cov (zfk L W M (zgp a b L)) j = zk6 L W M a b j := by
 unfold cov zfk zk6
 rw [List.any_map, List.any_filter]
 unfold zgp
 split
 ·rename_i h
  simp only [List.any_nil]
  by_cases h1 : max a 0 ≤ (j : Int)
  ·rw [show decide ((j : Int) ≤ min b 4000) = false by rw [decide_eq_false_iff_not]; omega]; simp
  ·simp [h1]
 ·rename_i h
  exact chain_any (j : Int) (zpm (by omega) L) fun d h1 h2 hm => zsb (a := max a 0) (b := min b 4000) (by omega) (by omega) h1 h2 fun hh => hm (zos.2 hh)
theorem days_eq (L : List Lot) (W : List Want) (M : List Part) (a b : Int) : rows (zfk L W M (zgp a b L)) = ofTo (zk6 L W M a b) 4001 := by
 rw [rows_ok okSpans_right]
 exact zpe fun j _ => okSpans_cov j
end Go.Ab
namespace Go.Ab
variable {C : CSem} {N : Nat → Nat}
def zja {T : Type} (one : Rdr → T × Rdr) : Nat → Rdr → List T × Rdr
 | 0, r => ([], r)
 | n + 1, r => if r.bad then ([], r) else ((one r).1 :: (zja one n (one r).2).1, (zja one n (one r).2).2)
structure ReadsAt (h0 : za) (x : AVal) (b : List UInt8) : Prop where
 is : ∃ R, SlX h0 1 x (b.map bc) R
 lt : b.length < 4611686018427387904
def tellZero : zi7 := ⟨0, 0, 0, [], 0, [], []⟩
theorem Owns.boxStn {h0 h : za} {l : List Ob} (ho : Owns h0 h l) (k : Nat) {id n : Nat} {cs xs : List AVal} {K : za → Prop} (hk : l[k]? = some (.box (.ptr id 0 0) cs)) (hn : xs.length = n) (hc : cs.length = n)
  (hK : ∀ h', Owns h0 h' (l.set k (.box (.ptr id 0 0) xs)) → But (.ptr id 0 0) h h' → K h') : A.stn h (.ptr id 0 0) n (.agg xs) K := by
 obtain ⟨id', e, hb⟩ := ho.zhu k hk
 cases e
 rw [stn_at hb hn (by omega)]
 have e1 : cs.take 0 ++ xs ++ cs.drop (0 + n) = xs := by simp [← hc]
 rw [e1]
 have hbut : But (.ptr id 0 0) h (upd h id (zex xs)) := fun j b e1 e2 => by rw [zq]; exact e1; intro e; subst e; exact e2 rfl
 exact hK _ (ho.turn k hk ⟨id, rfl, zbh ..⟩ (fun j b hj hb' => by cases hj; rw [zbh] at hb'; cases hb'; rfl) hbut (.inl rfl)) hbut
def zhi (t : zi7) (r : Rdr) : zi7 × Nat × Int := if r.bad || !zq5 t then (tellZero, 0, 4) else (t, r.at_, 0)
@[simp] def zi7.val (g : zi7 × Nat × Int) (x y : AVal) : AVal := .tup [.agg (g.1.cs x y), .int .i64 (g.2.1 : Int), .int .i64 g.2.2]
theorem tell_Get.fin (s : tell_Right.Spec C N) {h hh : za} {i2 : Nat} {p x : AVal} {cs2 : List AVal} {t : zi7} {r : Rdr} {lx ly : AVal} {Q : AVal → za → Prop} (ho : Owns h hh [.box (.ptr i2 0 0) cs2, .box p [x, .int .i64 (r.at_ : Int), .bool r.bad], .sl 6 lx (t.Lots.map Lot.cs) [], .sl 3 ly (t.Uses.map Use.cs) []])
  (hc : cs2.length = 7) (hl1 : t.Lots.length ≤ 65535) (hl2 : t.Uses.length ≤ 65535)
  (hq : ∀ x' y' h', Owns h h' [.sl 6 x' ((zhi t r).1.Lots.map Lot.cs) [], .sl 3 y' ((zhi t r).1.Uses.map Use.cs) []] → Q (zi7.val (zhi t r) x' y') h') : tell_Get.k1 C N (dn Q) (.ptr i2 0 0) p (.agg (t.cs lx ly)) hh := by
 obtain ⟨id, rfl, hbx⟩ := ho.zhu 1 rfl
 simp +contextual -dsimp [zfs hbx]
 refine B.zjm (fun _ _ hq => s t lx ly _ _ ⟨⟨_, ho.slAt 2 rfl⟩, ⟨_, ho.slAt 3 rfl⟩⟩ (by omega) (by omega) hq) ?_
 simp +contextual -dsimp
 refine B.zk (fun h1 => ?_) (fun h1 => ?_)
 ·have e : zhi t r = (tellZero, 0, 4) := by unfold zhi; rw [if_pos]; simpa using h1
  rw [e] at hq
  try simp +contextual -dsimp
  refine ho.boxStn 0 rfl rfl hc fun h2 ho2 _ => ?_
  obtain ⟨id', e', hb2⟩ := ho2.zhu 0 rfl
  cases e'
  simp -dsimp [ldnv_at hb2]
  refine zba (hq .nils .nils h2 ?_)
  exact ((Owns.nil ho2.le).nils 6).nils 3
 ·have e : zhi t r = (t, r.at_, 0) := by unfold zhi; rw [if_neg]; simpa using h1
  rw [e] at hq
  try simp +contextual -dsimp
  simp -dsimp [zfs hbx]
  refine ho.boxStn 0 rfl rfl hc fun h2 ho2 _ => ?_
  obtain ⟨id', e', hb2⟩ := ho2.zhu 0 rfl
  cases e'
  obtain ⟨id', e', hb3⟩ := ho2.zhu 1 rfl
  cases e'
  refine ⟨fun q hq => ?_, ?_⟩
  ·rw [List.mem_singleton.1 hq]
   exact ⟨.int .i64 (r.at_ : Int), by rw [zfs hbx]; rfl, by rw [zfs hb3]; rfl⟩
  ·simp -dsimp [ldnv_at hb2]
   exact zba (hq lx ly h2 (ho2.sub (by simp)))
theorem zfb.fin (s : ref14_Right.Spec C N) {h hh : za} {i2 : Nat} {p x : AVal} {cs2 : List AVal} {t : zi7} {r : Rdr} {lx ly : AVal} {Q : AVal → za → Prop} (ho : Owns h hh [.box (.ptr i2 0 0) cs2, .box p [x, .int .i64 (r.at_ : Int), .bool r.bad], .sl 6 lx (t.Lots.map Lot.cs) [], .sl 3 ly (t.Uses.map Use.cs) []])
  (hc : cs2.length = 7) (hl1 : t.Lots.length ≤ 65535) (hl2 : t.Uses.length ≤ 65535)
  (hq : ∀ x' y' h', Owns h h' [.sl 6 x' ((zhi t r).1.Lots.map Lot.cs) [], .sl 3 y' ((zhi t r).1.Uses.map Use.cs) []] → Q (zi7.val (zhi t r) x' y') h') : zfb.k1 C N (dn Q) (.ptr i2 0 0) p (.agg (t.cs lx ly)) hh := by
 obtain ⟨id, rfl, hbx⟩ := ho.zhu 1 rfl
 simp +contextual -dsimp [zfs hbx]
 refine B.zjm (fun _ _ hq => s t lx ly _ _ ⟨⟨_, ho.slAt 2 rfl⟩, ⟨_, ho.slAt 3 rfl⟩⟩ (by omega) (by omega) hq) ?_
 simp +contextual -dsimp
 refine B.zk (fun h1 => ?_) (fun h1 => ?_)
 ·have e : zhi t r = (tellZero, 0, 4) := by unfold zhi; rw [if_pos]; simpa using h1
  rw [e] at hq
  try simp +contextual -dsimp
  refine ho.boxStn 0 rfl rfl hc fun h2 ho2 _ => ?_
  obtain ⟨id', e', hb2⟩ := ho2.zhu 0 rfl
  cases e'
  simp -dsimp [ldnv_at hb2]
  refine zba (hq .nils .nils h2 ?_)
  exact ((Owns.nil ho2.le).nils 6).nils 3
 ·have e : zhi t r = (t, r.at_, 0) := by unfold zhi; rw [if_neg]; simpa using h1
  rw [e] at hq
  try simp +contextual -dsimp
  simp -dsimp [zfs hbx]
  refine ho.boxStn 0 rfl rfl hc fun h2 ho2 _ => ?_
  obtain ⟨id', e', hb2⟩ := ho2.zhu 0 rfl
  cases e'
  obtain ⟨id', e', hb3⟩ := ho2.zhu 1 rfl
  cases e'
  refine ⟨fun q hq => ?_, ?_⟩
  ·rw [List.mem_singleton.1 hq]
   exact ⟨.int .i64 (r.at_ : Int), by rw [zfs hbx]; rfl, by rw [zfs hb3]; rfl⟩
  ·simp -dsimp [ldnv_at hb2]
   exact zba (hq lx ly h2 (ho2.sub (by simp)))
theorem zfb.uses (s1 : zix.Spec C N) {b : List UInt8} {x lx : AVal} {i2 : Nat} {p : AVal} {bs hh : za} {Q : AVal → za → Prop} {e i d : Int} {c : List UInt8} {s : UInt8} {z : Nat} {r1 : Rdr} (hx : ReadsAt bs x b) (hcx : lx.zd1 = true) (hz : z ≤ 65535) (hr1 : r1.at_ ≤ b.length)
  (ho : Owns bs hh [.box p [x, .int .i64 (r1.at_ : Int), .bool r1.bad]])
  (hk : ∀ o h', Owns bs h' [.sl 3 o ((zja (rUse b) z r1).1.map Use.cs) [], .box p [x, .int .i64 ((zja (rUse b) z r1).2.at_ : Int), .bool (zja (rUse b) z r1).2.bad]] → zfb.k1 C N Q (.ptr i2 0 0) p (.agg [.int .i64 e, .int .i64 i, .int .i64 d, .str c, .int .u8 (s.toNat : Int), lx, o]) h') :
  zm (zfb.l3 C N Q (.ptr i2 0 0) p) [.int .i64 (z : Int), .agg [.int .i64 e, .int .i64 i, .int .i64 d, .str c, .int .u8 (s.toNat : Int), lx, .nils]] hh := by
 obtain ⟨⟨R, hxx⟩, hb⟩ := hx
 refine zm.intro (fun t vs hh => ∃ (o : AVal) (acc : List Use) (r : Rdr), vs = [.int .i64 (t : Int), .agg [.int .i64 e, .int .i64 i, .int .i64 d, .str c, .int .u8 (s.toNat : Int), lx, o]] ∧ t ≤ 65535 ∧ acc.length + t ≤ 65535 ∧ r.at_ ≤ b.length ∧ acc ++ (zja (rUse b) t r).1 = (zja (rUse b) z r1).1 ∧ (zja (rUse b) t r).2 = (zja (rUse b) z r1).2 ∧
   Owns bs hh [.sl 3 o (acc.map Use.cs) [], .box p [x, .int .i64 (r.at_ : Int), .bool r.bad]]) z ?_ ⟨.nils, [], r1, rfl, by omega, by simp; omega, hr1, rfl, rfl, (ho.nils 3).perm (List.Perm.swap ..)⟩
 rintro Y t vs hh ⟨o, acc, r, rfl, ht, hal, hr, e1, e2, ho⟩ hY
 obtain ⟨id, rfl, hbx⟩ := ho.zhu 1 rfl
 simp +contextual -dsimp [zfs hbx]
 refine B.zk (fun h2 => ?_) (fun h2 => ?_) <;> simp at h2
 ·obtain ⟨t, rfl⟩ : ∃ u, t = u + 1 := ⟨t - 1, by omega⟩
  simp only [zja, h2.2, Bool.false_eq_true, if_false] at e1 e2
  obtain ⟨q1, q2⟩ := ho.out (l1 := [_]) (l2 := [_])
  have hx1 := hxx.mono q1.le
  try simp +contextual -dsimp
  refine s1 _ hh _ x b R r 8 _ hx1 hb hr (by omega) q2 fun h3 ho3 => ?_
  have l3 := zjt (k := 8) hr
  try simp +contextual -dsimp
  refine s1 _ _ _ x b R _ 8 _ hx1 hb l3 (by omega) ho3 fun h4 ho4 => ?_
  have l4 := zjt (k := 8) l3
  try simp +contextual -dsimp
  refine s1 _ _ _ x b R _ 8 _ hx1 hb l4 (by omega) ho4 fun h5 ho5 => ?_
  have ho6 := q1.join ho5
  try simp +contextual -dsimp
  refine ho6.push 0 rfl rfl (by omega) (by simp; omega) (by simp [maxLen]; omega) fun o' h7 ho7 _ => ?_
  have e4 : IntKind.i64.wrap (((t + 1 : Nat) : Int) - 1) = (t : Int) := by rw [wrap_i64 (by omega) (by omega)]; omega
  have hco := (ho7.slAt 0 rfl).zd1
  simp -dsimp only [B.zlt, V.setF_agg, V.put1_cell, hco, cond_true, List.length_set, List.length_cons, List.length_nil, List.set, zrn, B.ze, if_true, show 6 < 0 + 1 + 1 + 1 + 1 + 1 + 1 + 1 by omega, V.zf3, e4]
  refine hY t _ _ (by omega) ⟨o', acc ++ [(rUse b r).1], (rUse b r).2, rfl, by omega, by simp; omega, rUse_le hr, ?_, e2, ?_⟩
  ·rw [← e1, List.append_assoc]; rfl
  ·rw [List.map_append]; exact ho7
 ·have : (zja (rUse b) t r) = ([], r) := by
   cases t with
   | zero => rfl
   | succ t => simp [zja, h2 (by omega)]
  rw [this, List.append_nil] at e1
  rw [this] at e2
  subst e1
  rw [← e2] at hk
  exact hk _ _ ho
theorem zfb.lots (s1 : zix.Spec C N) (s2 : ref14_lot.Spec C N) {b : List UInt8} {x : AVal} {i2 : Nat} {p : AVal} {bs hh : za} {Q : AVal → za → Prop} {e i d : Int} {c : List UInt8} {s : UInt8} {z : Nat} {r1 : Rdr} (hx : ReadsAt bs x b) (hz : z ≤ 65535) (hr1 : r1.at_ ≤ b.length)
  (ho : Owns bs hh [.box p [x, .int .i64 (r1.at_ : Int), .bool r1.bad]])
  (hk : ∀ o h', Owns bs h' [.sl 6 o ((zja (rLot b) z r1).1.map Lot.cs) [], .box p [x, .int .i64 ((zja (rLot b) z r1).2.at_ : Int), .bool (zja (rLot b) z r1).2.bad]] →
   C (N 71) [p, .int .i64 2] h' fun v54 h => zm (zfb.l3 C N Q (.ptr i2 0 0) p) [v54, .agg [.int .i64 e, .int .i64 i, .int .i64 d, .str c, .int .u8 (s.toNat : Int), o, .nils]] h) :
  zm (zfb.l5 C N Q (.ptr i2 0 0) p) [.int .i64 (z : Int), .agg [.int .i64 e, .int .i64 i, .int .i64 d, .str c, .int .u8 (s.toNat : Int), .nils, .nils]] hh := by
 obtain ⟨⟨R, hxx⟩, hb⟩ := hx
 refine zm.intro (fun t vs hh => ∃ (o : AVal) (acc : List Lot) (r : Rdr), vs = [.int .i64 (t : Int), .agg [.int .i64 e, .int .i64 i, .int .i64 d, .str c, .int .u8 (s.toNat : Int), o, .nils]] ∧ t ≤ 65535 ∧ acc.length + t ≤ 65535 ∧ r.at_ ≤ b.length ∧ acc ++ (zja (rLot b) t r).1 = (zja (rLot b) z r1).1 ∧ (zja (rLot b) t r).2 = (zja (rLot b) z r1).2 ∧
   Owns bs hh [.sl 6 o (acc.map Lot.cs) [], .box p [x, .int .i64 (r.at_ : Int), .bool r.bad]]) z ?_ ⟨.nils, [], r1, rfl, by omega, by simp; omega, hr1, rfl, rfl, (ho.nils 6).perm (List.Perm.swap ..)⟩
 rintro Y t vs hh ⟨o, acc, r, rfl, ht, hal, hr, e1, e2, ho⟩ hY
 obtain ⟨id, rfl, hbx⟩ := ho.zhu 1 rfl
 simp +contextual -dsimp [zfs hbx]
 refine B.zk (fun h2 => ?_) (fun h2 => ?_) <;> simp at h2
 ·obtain ⟨t, rfl⟩ : ∃ u, t = u + 1 := ⟨t - 1, by omega⟩
  simp only [zja, h2.2, Bool.false_eq_true, if_false] at e1 e2
  obtain ⟨q1, q2⟩ := ho.out (l1 := [_]) (l2 := [_])
  have hx1 := hxx.mono q1.le
  try simp +contextual -dsimp
  refine s2 _ hh _ x b R r _ hx1 hb hr q2 fun h5 ho5 => ?_
  have ho6 := q1.join ho5
  try simp +contextual -dsimp
  refine ho6.push 0 rfl rfl (by omega) (by simp; omega) (by simp [maxLen]; omega) fun o' h7 ho7 _ => ?_
  have e4 : IntKind.i64.wrap (((t + 1 : Nat) : Int) - 1) = (t : Int) := by rw [wrap_i64 (by omega) (by omega)]; omega
  have hco := (ho7.slAt 0 rfl).zd1
  simp -dsimp only [B.zlt, V.setF_agg, V.put1_cell, hco, cond_true, List.length_set, List.length_cons, List.length_nil, List.set, zrn, B.ze, if_true, show 5 < 0 + 1 + 1 + 1 + 1 + 1 + 1 + 1 by omega, V.zf3, e4]
  refine hY t _ _ (by omega) ⟨o', acc ++ [(rLot b r).1], (rLot b r).2, rfl, by omega, by simp; omega, rLot_le hr, ?_, e2, ?_⟩
  ·rw [← e1, List.append_assoc]; rfl
  ·rw [List.map_append]; exact ho7
 ·have : (zja (rLot b) t r) = ([], r) := by
   cases t with
   | zero => rfl
   | succ t => simp [zja, h2 (by omega)]
  rw [this, List.append_nil] at e1
  rw [this] at e2
  subst e1
  rw [← e2] at hk
  exact hk _ _ ho
end Go.Ab
set_option maxRecDepth 100000
namespace Go.Ab
variable {C : CSem} {N : Nat → Nat}
def two {α : Type} (a b : α) : Nat → α := fun j => if j = 0 then a else b
end Go.Ab
namespace Go.Ab
variable {C : CSem} {N : Nat → Nat}
theorem litP {h : za} {es n : Nat} {cs : List AVal} (L : List (List AVal)) {K : Nat → za → Prop} (hc : cs = L.flatten) (hL : ∀ p ∈ L, p.length = es) (hn : n = L.length) (hK : ∀ i h', Owns h h' [.sl es (.sl i 0 0 n es n) L []] → K i h') : B.newO h (some cs) K :=
 fun i hi => hK i _ ((Owns.start h).newSl hi (by simpa using hL) hn (by simp; omega) (by simpa using hc))
section
variable {h : za} {v : AVal} {R : List (List AVal)} {j : Nat}
end
section
variable {h0 h : za} {vi vd vq vt : AVal} {Q : AVal → za → Prop} {Y5 : List AVal → za → Prop}
end
end Go.Ab
namespace Go.Ab
variable {C : CSem} {N : Nat → Nat}
def NoOwn (h : za) (y : AVal) : Prop := ∀ id b, foot y = some id → h id = some b → b.own = false
def znn (y : AVal) : List Nat := match foot y with
 | some id => [id]
 | none => []
theorem zrz {y : AVal} {i : Nat} : memB (znn y) i = true ↔ foot y = some i := by
 unfold znn
 cases foot y with
 | none => exact ⟨fun h => (by cases h), fun h => (by cases h)⟩
 | some id =>
  have e : memB [id] i = Nat.beq id i := by
   show (bif Nat.beq id i then true else false) = _
   cases Nat.beq id i <;> rfl
  show memB [id] i = true ↔ _
  rw [e, Option.some.injEq]
  exact ⟨Nat.eq_of_beq_eq_true, fun h => by rw [h]; exact Nat.beq_refl i⟩
theorem zp1 (h : za) (y : AVal) : NoOwn (disown h (znn y)) y := fun id b hf hb => by
 rw [zop (zrz.2 hf)] at hb
 cases e : h id with
 | none => rw [e] at hb; cases hb
 | some c => rw [e] at hb; cases hb; rfl
theorem NoOwn.mono {h h' : za} {y : AVal} (hn : NoOwn h y) {es : Nat} {L R : List (List AVal)} (hy : SlX h es y L R) (hle : h.le h') : NoOwn h' y := fun id b hf hb => by
 obtain ⟨c, hc⟩ := hy.known hf
 rw [hle id c hc] at hb
 cases hb
 exact hn id b hf hc
theorem CDis.call (hD : CDis C) {f : Nat} {args : List AVal} {h : za} {K : AVal → za → Prop} (y : AVal) {es : Nat} {L R : List (List AVal)} (hy : SlX h es y L R) (x : C f args (disown h (znn y)) K) : C f args h K :=
 hD f args h (znn y) K (fun i hi => hy.known (zrz.1 hi)) x
theorem le_disown {h0 h : za} {y : AVal} (hle : h0.le h) (hn : ∀ id, foot y = some id → h0 id = none) : h0.le (disown h (znn y)) := fun i b hb => by
 cases hm : memB (znn y) i with
 | true => rw [hn i (zrz.1 hm)] at hb; cases hb
 | false => rw [zit hm]; exact hle i b hb
def small6 (L : List Lot) (W : List Want) (M : List Part) (a b : Int) : Bool := decide (L.length ≤ 12) && decide (W.length ≤ 20) && decide (M.length ≤ 6) && (decide (min b 4001 < max a 0) || decide (min b 4001 - max a 0 ≤ 60))
def zdx.Spec (C : CSem) (N : Nat → Nat) : Prop := ∀ (x y z : AVal) (L : List Lot) (W : List Want) (M : List Part) (R S T : List (List AVal)) (a b : Int) (h : za) (Q : AVal → za → Prop), SlX h 6 x (L.map Lot.cs) R → SlX h 3 y (W.map Want.cs) S → SlX h 2 z (M.map Part.cs) T →
 Q (.bool (small6 L W M a b)) h → C (N 318) [x, y, z, .int .i64 a, .int .i64 b] h Q
theorem zdx.spec (i : zdx.Imp C N) : zdx.Spec C N := by
 intro x y z L W M R S T a b h Q hx hy hz hq
 apply i
 have e1 := hx.zcj
 have e2 := hy.zcj
 have e3 := hz.zcj
 rw [List.length_map] at e1 e2 e3
 have n1 : decide ((L.length : Int) ≤ 12) = decide (L.length ≤ 12) := by rw [decide_eq_decide]; omega
 have n2 : decide ((W.length : Int) ≤ 20) = decide (W.length ≤ 20) := by rw [decide_eq_decide]; omega
 have n3 : decide ((M.length : Int) ≤ 6) = decide (M.length ≤ 6) := by rw [decide_eq_decide]; omega
 unfold small6 at hq
 simp -dsimp only [zdx.cps, zdx.k1, e1, V.bin_leq, n1, B.ze]
 by_cases c1 : L.length ≤ 12
 ·by_cases c2 : W.length ≤ 20
  ·by_cases c3 : M.length ≤ 6
   ·by_cases c4 : min b 4001 < max a 0
    ·simp -dsimp [c1, c2, c3, c4, e2, e3, n2, n3, V.zqw, V.max2_int]
     refine zba ?_
     simpa [c1, c2, c3, c4] using hq
    ·have ew : V.bin .sub (.int .i64 (min b 4001)) (.int .i64 (max a 0)) = some (.int .i64 (min b 4001 - max a 0)) := by rw [V.zf3, wrap_i64 (by omega) (by omega)]
     simp -dsimp [c1, c2, c3, c4, e2, e3, n2, n3, V.zqw, V.max2_int, ew]
     refine zba ?_
     simpa [c1, c2, c3, c4] using hq
   ·simp -dsimp [c1, c2, c3, e2, e3, n2, n3]
    refine zba ?_
    simpa [c1, c2, c3] using hq
  ·simp -dsimp [c1, c2, e2, e3, n2, n3]
   refine zba ?_
   simpa [c1, c2] using hq
 ·simp -dsimp [c1, e2, e3, n2, n3]
  refine zba ?_
  simpa [c1] using hq
def zei.Spec (C : CSem) (N : Nat → Nat) : Prop := ∀ (h : za) (Q : AVal → za → Prop), (∀ x h', Owns h h' [.sl 6 x (([⟨1, [65], 0, 5, 3, false⟩, ⟨2, [65], 7, 9, 4, false⟩] : List Lot).map Lot.cs) []] → Q x h') → C (N 329) [] h Q
theorem zei.spec (i : zei.Imp C N) : zei.Spec C N := by
 intro h Q hq
 apply i
 simp -dsimp [A.bld, repL]
 refine litP (es := 6) (n := 2) (([⟨1, [65], 0, 5, 3, false⟩, ⟨2, [65], 7, 9, 4, false⟩] : List Lot).map Lot.cs) rfl (by simp) rfl fun i1 h1 o1 => zba (hq _ _ o1)
end Go.Ab
namespace Go.Ab
variable {C : CSem} {N : Nat → Nat}
def aw6L : List Lot := [⟨1, [65], 0, 5, 3, false⟩, ⟨2, [65], 7, 9, 4, false⟩]
def aw6W : List Want := [⟨[65], 2, 2⟩]
theorem aw6_1 : zor aw6L aw6W [⟨[65], 1⟩] 1 20 = (1, true) := by decide +kernel
theorem aw6_2 : zor aw6L aw6W [⟨[65], 2⟩] 1 20 = (7, true) := by decide +kernel
theorem aw6_3 : zor aw6L aw6W [⟨[65], 5⟩] 1 20 = (0, false) := by decide +kernel
theorem aw6_4 : (zfk aw6L aw6W [⟨[65], 2⟩] (zgp 1 20 aw6L)).map (fun w => (w.From, w.zel)) = [(7, 9)] := by decide +kernel
theorem aw6_5 : rows (zfk aw6L aw6W [⟨[65], 2⟩] (zgp 1 20 aw6L)) = [⟨7, 9⟩] := by
 have e : zfk aw6L aw6W [⟨[65], 2⟩] (zgp 1 20 aw6L) = [⟨7, 9⟩] := by
  have h := aw6_4
  match hm : zfk aw6L aw6W [⟨[65], 2⟩] (zgp 1 20 aw6L), h with
  | [⟨a, b⟩], h => simp at h; rw [h.1, h.2]
 rw [e, rows_eq]
 unfold rrows
 rw [if_pos (by decide), ofTo_span (a := 7) (b := 9) 4001 fun d hd => ?_]
 ·rfl
 ·simp [cov]; omega
def zd9.Spec (C : CSem) (N : Nat → Nat) : Prop := ∀ (h : za) (Q : AVal → za → Prop), Q (.bool true) h → C (N 317) [] h Q
theorem zd9.spec (i : zd9.Imp C N) (hD : CDis C) (s1 : zei.Spec C N) (s2 : zdk.Spec C N) (s3 : zc2.Spec C N) : zd9.Spec C N := by
 intro h Q hq
 apply i
 simp -dsimp [A.bld, repL]
 refine litP (es := 3) (n := 1) (aw6W.map Want.cs) rfl (by simp [aw6W]) rfl fun i1 h1 o1 => ?_
 refine s1 _ _ fun x1 h2 o2 => ?_
 simp -dsimp [A.bld, repL]
 refine litP (es := 2) (n := 1) (([⟨[65], 1⟩] : List Part).map Part.cs) rfl (by simp) rfl fun i3 h3 o3 => ?_
 have ly3 := (o1.slAt 0 rfl).mono (za.le_trans o2.le o3.le)
 refine hD.call (.sl i1 0 0 1 3 1) ly3 ?_
 have d1 := (za.le_trans o1.le (za.le_trans o2.le o3.le))
 have h3le : h.le (disown h3 (znn (.sl i1 0 0 1 3 1))) := le_disown d1 fun id hf => (o1.own _ (List.mem_singleton_self _) id hf).1
 have hn := zp1 h3 (.sl i1 0 0 1 3 1)
 have ly := ly3.disown (znn (.sl i1 0 0 1 3 1))
 refine s2 _ _ _ aw6L aw6W [⟨[65], 1⟩] [] [] [] 1 20 _ _ (((o2.slAt 0 rfl).mono o3.le).disown _) ly ((o3.slAt 0 rfl).disown _) hn (by decide) (by decide) ?_
 generalize disown h3 (znn (.sl i1 0 0 1 3 1)) = g3 at h3le hn ly
 rw [aw6_1]
 simp -dsimp [A.bld, repL]
 refine s1 _ _ fun x4 h4 o4 => ?_
 simp -dsimp [A.bld, repL]
 refine litP (es := 2) (n := 1) (([⟨[65], 2⟩] : List Part).map Part.cs) rfl (by simp) rfl fun i5 h5 o5 => ?_
 have le5 := za.le_trans o4.le o5.le
 refine s2 _ _ _ aw6L aw6W [⟨[65], 2⟩] [] [] [] 1 20 _ _ ((o4.slAt 0 rfl).mono o5.le) (ly.mono le5) (o5.slAt 0 rfl) (hn.mono ly le5) (by decide) (by decide) ?_
 rw [aw6_2]
 simp -dsimp [A.bld, repL]
 refine s1 _ _ fun x6 h6 o6 => ?_
 simp -dsimp [A.bld, repL]
 refine litP (es := 2) (n := 1) (([⟨[65], 5⟩] : List Part).map Part.cs) rfl (by simp) rfl fun i7 h7 o7 => ?_
 have le7 := za.le_trans le5 (za.le_trans o6.le o7.le)
 refine s2 _ _ _ aw6L aw6W [⟨[65], 5⟩] [] [] [] 1 20 _ _ ((o6.slAt 0 rfl).mono o7.le) (ly.mono le7) (o7.slAt 0 rfl) (hn.mono ly le7) (by decide) (by decide) ?_
 rw [aw6_3]
 simp -dsimp [A.bld, repL]
 refine s1 _ _ fun x8 h8 o8 => ?_
 simp -dsimp [A.bld, repL]
 refine litP (es := 2) (n := 1) (([⟨[65], 2⟩] : List Part).map Part.cs) rfl (by simp) rfl fun i9 h9 o9 => ?_
 have le9 := za.le_trans le7 (za.le_trans o8.le o9.le)
 refine s3 _ _ _ aw6L aw6W [⟨[65], 2⟩] [] [] [] 1 20 _ _ ((o8.slAt 0 rfl).mono o9.le) (ly.mono le9) (o9.slAt 0 rfl) (hn.mono ly le9) (by decide) (by decide) fun v h10 o10 => ?_
 rw [aw6_5] at o10
 have a := o10.slAt 0 rfl
 have i0 : V.idxS 2 v (.int .i64 0) = some (elp 2 v 0 0) := a.idxN (i := 0) (by simp)
 have d0 := a.elem (i := 0) (c := zbz.cs ⟨7, 9⟩) rfl
 simp -dsimp [a.zcj, i0, d0, A.bld, repL, V.zjn]
 exact zk5 (za.le_trans h3le (za.le_trans le9 o10.le)) hq
end Go.Ab
namespace Go.Ab
variable {C : CSem} {N : Nat → Nat}
theorem small6_facts {L : List Lot} {W : List Want} {M : List Part} {a b : Int} (h : small6 L W M a b = true) : L.length ≤ 12 ∧ W.length ≤ 20 ∧ M.length ≤ 6 := by
 simp only [small6, Bool.and_eq_true, decide_eq_true_eq] at h
 exact ⟨h.1.1.1, h.1.1.2, h.1.2⟩
def zcr.Spec (C : CSem) (N : Nat → Nat) : Prop := ∀ (x y z : AVal) (L : List Lot) (W : List Want) (M : List Part) (R S T : List (List AVal)) (a b : Int) (h : za) (Q : AVal → za → Prop), SlX h 6 x (L.map Lot.cs) R → SlX h 3 y (W.map Want.cs) S → SlX h 2 z (M.map Part.cs) T →
 Q (.bool true) h → C (N 325) [x, y, z, .int .i64 a, .int .i64 b] h Q
theorem zcr.spec (i : zcr.Imp C N) (hD : CDis C) (s0 : zd9.Spec C N) (s1 : zdx.Spec C N) (s2 : zdn.Spec C N) (s3 : zc9.Spec C N) (s4 : zda.Spec C N) (s5 : zdk.Spec C N) (s6 : zd3.Spec C N) (s7 : zc2.Spec C N) (s8 : zc3.Spec C N) (s9 : zcs.Spec C N) (s10 : zc7.Spec C N) (s11 : zcz.Spec C N) (s12 : zc0.Spec C N) : zcr.Spec C N := by
 intro x y z L W M R S T a b h Q hx hy hz hq
 apply i
 simp -dsimp only [zcr.cps, zcr.k1]
 refine s0 _ _ ?_
 simp -dsimp only [V.zf7, Bool.not_true, B.cond_false, B.ze]
 refine s1 _ _ _ _ _ _ _ _ _ _ _ _ _ hx hy hz ?_
 simp -dsimp only [V.zf7, B.ze]
 refine B.zk (fun hb => zba hq) (fun hb => ?_)
 obtain ⟨n1, n2, n3⟩ := small6_facts (by simpa using hb)
 refine s2 _ _ _ _ _ hx (by omega) fun xa h1 o1 => ?_
 refine s3 _ _ _ _ _ (hy.mono o1.le) (by omega) fun xb h2 o2 => ?_
 refine s4 _ _ _ _ _ (hz.mono (za.le_trans o1.le o2.le)) (by omega) fun xc h3 o3 => ?_
 have h23 := o3.le
 have h13 := za.le_trans o2.le o3.le
 have h03 := za.le_trans o1.le h13
 have ly3 := (o2.slAt 0 rfl).mono h23
 refine hD.call xb ly3 ?_
 have hn := zp1 h3 xb
 have hle : h.le (disown h3 (znn xb)) := le_disown h03 fun id hf => by
  have := (o2.own _ (List.mem_singleton_self _) id hf).1
  cases e : h id with
  | none => rfl
  | some c => rw [o1.le id c e] at this; cases this
 have la := (((o1.slAt 0 rfl).mono h13).disown (znn xb))
 have lb := ly3.disown (znn xb)
 have lc := (o3.slAt 0 rfl).disown (znn xb)
 generalize disown h3 (znn xb) = g at hn hle la lb lc
 have lx := hx.mono hle
 have ly := hy.mono hle
 have lz := hz.mono hle
 refine s5 _ _ _ L W M _ _ _ a b _ _ la lb lc hn (by omega) (by omega) ?_
 simp -dsimp only [V.zjy, List.getElem?_cons_zero, List.getElem?_cons_succ, B.ze]
 refine s6 _ _ _ L W M _ _ _ a b _ _ lx ly lz (by omega) (by omega) ?_
 rw [← dayOf_eq]
 have et : V.zp9 .eql (.bool (zor L W M a b).2) (.bool (zor L W M a b).2) = some (.bool true) := by cases (zor L W M a b).2 <;> rfl
 simp -dsimp [et]
 refine s7 _ _ _ L W M _ _ _ a b _ _ la lb lc hn (by omega) (by omega) fun v h4 o4 => ?_
 simp -dsimp
 refine s8 _ _ _ L W M _ _ _ a b _ _ (lx.mono o4.le) (ly.mono o4.le) (lz.mono o4.le) (by omega) (by omega) fun w h5 o5 => ?_
 simp -dsimp
 rw [days_eq] at o4
 have g5 := za.le_trans o4.le o5.le
 refine s9 _ _ _ _ _ _ _ _ ((o4.slAt 0 rfl).mono o5.le) (o5.slAt 0 rfl) (by have := ofTo_len (zk6 L W M a b) 4001; omega) ?_
 simp -dsimp
 refine s10 _ _ _ _ _ _ _ (la.mono g5) (lx.mono g5) (by omega) ?_
 simp -dsimp
 refine s11 _ _ _ _ _ _ _ (lb.mono g5) (ly.mono g5) (by omega) ?_
 simp -dsimp
 refine s12 _ _ _ _ _ _ _ (lc.mono g5) (lz.mono g5) (by omega) ?_
 simp -dsimp
 exact zk5 (za.le_trans hle g5) hq
end Go.Ab
namespace Go.Ab
theorem dWants {H : za} {v : AVal} (h : zia H (.sl 32 3 tyWant) [v]) : ∃ L : List Want, SlIs H 3 v (L.map Want.cs) ∧ L.length < 4611686018427387904 := by
 obtain ⟨L, h1, h2⟩ := zsd Want.cs (fun p hp => dWant hp) h
 exact ⟨L, h1, by unfold reach at h2; omega⟩
end Go.Ab
namespace Go.Ab
theorem dParts {H : za} {v : AVal} (h : zia H (.sl 24 2 tyPart) [v]) : ∃ L : List Part, SlIs H 2 v (L.map Part.cs) ∧ L.length < 4611686018427387904 := by
 obtain ⟨L, h1, h2⟩ := zsd Part.cs (fun p hp => dPart hp) h
 exact ⟨L, h1, by unfold reach at h2; omega⟩
end Go.Ab
