/- What is proved: a part of the way to the statement; each part is headed by what it proves. No conditions. -/
import Derived.Test.YtncpfmgbjopjdaaQ6
import Derived.Test.YtncpfmgbjopjdaaQ3
import Derived.Test.YtncpfmgbjopjdaaQ7

/- What is proved: contracts of what the statements share about lists of plain things: marks, the same, lent, kept, written over, copied, apart. No conditions. Printed by a program of mine. -/
set_option linter.unusedVariables false
set_option linter.unusedSimpArgs false
set_option maxRecDepth 100000
namespace Go.Ab
variable {C : CSem} {N : Nat → Nat}

@[irreducible] def mark (k i : Int) : Int := IntKind.i64.wrap (IntKind.i64.wrap (1000003 * IntKind.i64.wrap (k + 7)) + i)
def kit_mark.Spec (C : CSem) (N : Nat → Nat) : Prop := ∀ (k i : Int) (h : AHeap) (Q : AVal → AHeap → Prop), Q (.int .i64 (mark k i)) h → C (N 20) [.int .i64 k, .int .i64 i] h Q
theorem kit_mark.spec (i : kit_mark.Imp C N) : kit_mark.Spec C N := by
  intro k j h Q hq
  apply i
  simp +contextual -dsimp
  unfold mark at hq
  exact dn_same hq

/-- A list of lists: x, of n, these xs; what they hold, and behind. -/
structure LL where
  x : AVal
  n : Nat
  xs : Nat → AVal
  D : Nat → List (List AVal)
  R : Nat → List (List AVal)
  W : List (List AVal)
structure LL.ok (t : LL) (h0 : AHeap) : Prop where
  is : SlX h0 1 t.x (fills t.n fun j => [t.xs j]) t.W
  n_le : t.n ≤ 100000000
  len_le : ∀ j, j < t.n → (t.D j).length ≤ 100000000
def markLot (k i : Int) : Lot := ⟨mark k i, [], 0, 0, 0, false⟩
abbrev marksLot : List (List AVal) := marks lotF (markLot 1) 12

def kit_CopyLots.Spec (C : CSem) (N : Nat → Nat) : Prop := ∀ (x : AVal) (L : List Lot) (R : List (List AVal)) (h : AHeap) (Q : AVal → AHeap → Prop), SlX h 6 x (L.map Lot.cs) R → L.length ≤ 100000000 →
  (∀ x' h', Owns h h' [.sl 6 x' (L.map Lot.cs) []] → Q x' h') → C (N 229) [x] h Q
theorem kit_CopyLots.spec (i : kit_CopyLots.Imp C N) : kit_CopyLots.Spec C N := fun x L R h Q hx hlen hq =>
  i x h Q (copy_spec (by omega) (by omega) hx (by simpa using hlen) fun x' h' ho => dn_same (hq x' h' ho))

def markUse (k i : Int) : Use := ⟨0, mark k i, 0⟩
def kit_markUse.Spec (C : CSem) (N : Nat → Nat) : Prop := ∀ (k i : Int) (h : AHeap) (Q : AVal → AHeap → Prop), Q (.agg (markUse k i).cs) h → C (N 78) [.int .i64 k, .int .i64 i] h Q
theorem kit_markUse.spec (i : kit_markUse.Imp C N) (s1 : kit_mark.Spec C N) : kit_markUse.Spec C N := by
  intro k j h Q hq
  apply i
  simp +contextual -dsimp
  refine s1 _ _ _ _ ?_
  simp +contextual -dsimp
  exact dn_same hq
abbrev marksUse : List (List AVal) := marks useF (markUse 1) 12

def kit_LentUses.Spec (C : CSem) (N : Nat → Nat) : Prop := ∀ (x : AVal) (L : List Use) (R : List (List AVal)) (h : AHeap) (Q : AVal → AHeap → Prop), SlX h 3 x (L.map Use.cs) R → L.length ≤ 100000000 →
  (∀ x' h', Owns h h' [.sl 3 x' (L.map Use.cs) marksUse] → Q x' h') → C (N 49) [x] h Q
theorem kit_LentUses.spec (i : kit_LentUses.Imp C N) (s1 : kit_markUse.Spec C N) : kit_LentUses.Spec C N := fun x L R h Q hx hlen hq =>
  i x h Q (lentG_spec useF (z := [.int .i64 0, .int .i64 0, .int .i64 0]) (m := 1) (mk := markUse 1) rfl (by omega) (s1 1) hx hlen fun x' h' ho => dn_same (hq x' h' ho))

def kit_KeptUses.Spec (C : CSem) (N : Nat → Nat) : Prop := ∀ (x y : AVal) (L M : List Use) (R : List (List AVal)) (h : AHeap) (Q : AVal → AHeap → Prop), SlX h 3 x (L.map Use.cs) marksUse → SlX h 3 y (M.map Use.cs) R → L.length ≤ 100000000 →
  Q (.bool (decide (L = M))) h → C (N 55) [x, y] h Q
theorem kit_KeptUses.spec (i : kit_KeptUses.Imp C N) (s1 : kit_markUse.Spec C N) : kit_KeptUses.Spec C N := fun x y L M R h Q hx hy hlen hq =>
  i x y h Q (keptG_spec useF (m := 1) (mk := markUse 1) (s1 1) hx hy hlen (dn_same hq))

end Go.Ab

/- What is told: residuals: what each function does in the abstract memory, printed by a program of mine. Definitions alone. -/
set_option linter.unusedVariables false
namespace Go.Ab
end Go.Ab

/- What is proved: contracts of the fourth chapter's statements' functions. No conditions. -/
set_option linter.unusedVariables false
set_option linter.unusedSimpArgs false
namespace Go.Ab
variable {C : CSem} {N : Nat → Nat}
end Go.Ab

/- What is proved: contracts of the fourth chapter's statements' functions: what is sorted. No conditions. -/
set_option linter.unusedVariables false
set_option linter.unusedSimpArgs false
namespace Go.Ab
variable {C : CSem} {N : Nat → Nat}
theorem sortLots_perm (L : List Lot) : (sortLots L).Perm L := (sortB_stable lotW L).perm
theorem sortLots_len (L : List Lot) : (sortLots L).length = L.length := (sortLots_perm L).length_eq
theorem sortLots_up (L : List Lot) : (sortLots L).Pairwise fun a b => lessC lotCmp b a = false := (sortB_stable lotW L).sorted lotW
end Go.Ab

/- What is proved: contract of filling wants. No conditions. -/
set_option linter.unusedVariables false
set_option linter.unusedSimpArgs false
namespace Go.Ab
variable {C : CSem} {N : Nat → Nat}
/-- A group of lots of one item: the item, the slice, the lots. -/
abbrev Gp := List UInt8 × AVal × List Lot
def gOb (g : Gp) : Ob := .sl 6 g.2.1 (g.2.2.map Lot.cs) []
abbrev kI (n : Int) : AVal := .int .i64 n
abbrev kS (s : List UInt8) : AVal := .str s
abbrev vI (n : Int) : AVal := .int .i64 n
abbrev vA (x : AVal) : AVal := x
theorem lotQty (l : Lot) : V.field1 4 (.agg l.cs) = some (.int .i64 l.Qty) := by simp
theorem lotItem (l : Lot) : V.field1 1 (.agg l.cs) = some (.str l.Item) := by simp
theorem lotDays (l : Lot) : V.fieldN 2 2 (.agg l.cs) = some (.agg [.int .i64 l.From, .int .i64 l.Until]) := by simp
theorem setWant (w : Want) : V.setN 0 3 (.agg w.cs) (.agg [.str [], .int .i64 0, .int .i64 0]) = some (.agg w.cs) := by simp
theorem wantQty (w : Want) : V.field1 2 (.agg w.cs) = some (.int .i64 w.Qty) := by simp
theorem wantItem (w : Want) : V.field1 0 (.agg w.cs) = some (.str w.Item) := by simp
theorem wantDay (w : Want) : V.field1 1 (.agg w.cs) = some (.int .i64 w.Day) := by simp
theorem fillLot1 (a : Lot) : fillL [(0, some 6, .agg a.cs)] (repL 1 [.int .i64 0, .str [], .int .i64 0, .int .i64 0, .int .i64 0, .bool false]) = some a.cs := by simp [repL]
theorem fillUse1 (a : Use) : fillL [(0, some 3, .agg a.cs)] (repL 1 [.int .i64 0, .int .i64 0, .int .i64 0]) = some a.cs := by simp [repL]
theorem bldUse (a b c : Int) : A.bld [(0, none, .int .i64 a), (1, none, .int .i64 b), (2, none, .int .i64 c)] [.int .i64 0, .int .i64 0, .int .i64 0] = some (.agg (Use.cs ⟨a, b, c⟩)) := by simp [A.bld]
/-- The groups that stand for the first k lots. -/
structure Groups (S : List Lot) (k : Nat) (psI : Ents (List UInt8) AVal) (G : List Gp) : Prop where
  get : ∀ s, getP psI s = (G.find? fun g => decide (g.1 = s)).map (·.2.1)
  nd : (G.map (·.1)).Nodup
  lots : ∀ g ∈ G, g.2.2 = (S.take k).filter fun l => decide (l.Item = g.1)
  none_ : ∀ s, s ∉ G.map (·.1) → ((S.take k).filter fun l => decide (l.Item = s)) = []
theorem find_set {G : List Gp} (hn : (G.map (·.1)).Nodup) {j : Nat} {g g' : Gp} (hj : G[j]? = some g) (he : g'.1 = g.1) (s : List UInt8) : ((G.set j g').find? fun g => decide (g.1 = s)) = if s = g.1 then some g' else G.find? fun g => decide (g.1 = s) := by
  induction G generalizing j with
  | nil => simp at hj
  | cons a G ih =>
    simp only [List.map_cons, List.nodup_cons] at hn
    cases j with
    | zero =>
      simp at hj; subst hj
      simp only [List.set_cons_zero, List.find?_cons, he]
      by_cases e : s = a.1
      · subst e; simp
      · simp [e, Ne.symm e]
    | succ j =>
      simp at hj
      simp only [List.set_cons_succ, List.find?_cons]
      have hne : a.1 ≠ g.1 := fun e => hn.1 (by rw [e]; exact List.mem_map_of_mem (List.mem_of_getElem? hj))
      rw [ih hn.2 hj]
      by_cases e : a.1 = s
      · subst e; simp [hne]
      · simp [e]
theorem find_at {G : List Gp} (hn : (G.map (·.1)).Nodup) {j : Nat} {g : Gp} (hj : G[j]? = some g) : (G.find? fun x => decide (x.1 = g.1)) = some g := by
  have := find_set hn hj (g' := g) rfl g.1
  rw [if_pos rfl] at this
  rw [← this]
  congr 1
  apply List.ext_getElem?
  intro i
  rw [List.getElem?_set]
  split
  · rename_i e; subst e
    split
    · exact hj
    · rename_i h; exact absurd (List.getElem?_eq_some_iff.1 hj).1 h
  · rfl
theorem Groups.old {S : List Lot} {k : Nat} {psI : Ents (List UInt8) AVal} {G : List Gp} (gr : Groups S k psI G) (hk : k < S.length) {j : Nat} {g : Gp} (hj : G[j]? = some g) (he : g.1 = S[k].Item) (x : AVal) (c : Nat) :
    Groups S (k + 1) (putP psI S[k].Item x c) (G.set j (g.1, x, g.2.2 ++ [S[k]])) where
  get s := by
    rw [getP_put, find_set gr.nd hj (by rfl)]
    by_cases e : s = S[k].Item
    · subst e; rw [if_pos rfl, if_pos he.symm]; rfl
    · rw [if_neg e, if_neg (by rw [he]; exact e)]; exact gr.get s
  nd := by
    have : (G.set j (g.1, x, g.2.2 ++ [S[k]])).map (·.1) = G.map (·.1) := by
      rw [List.map_set]
      apply List.ext_getElem?
      intro i
      rw [List.getElem?_set]
      split
      · rename_i e; subst e
        have := (List.getElem?_eq_some_iff.1 hj).1
        rw [if_pos (by simpa using this), List.getElem?_map, hj]; rfl
      · rfl
    rw [this]; exact gr.nd
  lots q hq := by
    rw [take_one hk, List.filter_append]
    rcases List.mem_or_eq_of_mem_set hq with hq' | rfl
    · rw [← gr.lots q hq']
      by_cases e : S[k].Item = q.1
      · -- the same item: then it is the one that was set
        obtain ⟨i, hi, e2⟩ := List.getElem_of_mem hq
        rw [List.getElem_set] at e2
        split at e2
        · rename_i hji
          subst e2
          have : g ∈ G := List.mem_of_getElem? hj
          have hgl := gr.lots g this
          exfalso
          -- q would hold one more
          have := gr.lots _ hq'
          simp only at this
          rw [hgl] at this
          have hl := congrArg List.length this
          simp at hl
        · rename_i hji
          have hi' : i < G.length := by simpa using hi
          obtain ⟨hj', hjg⟩ := List.getElem?_eq_some_iff.1 hj
          have := nodup_inj gr.nd (i := j) (j := i) (by simpa using hj') (by simpa using hi') (by simp [hjg, e2, he, e])
          exact absurd this hji
      · simp [e]
    · simp only
      rw [gr.lots g (List.mem_of_getElem? hj), he]
      simp
  none_ s hs := by
    have hs' : s ∉ G.map (·.1) := fun hm => hs (by
      obtain ⟨q, hq, rfl⟩ := List.mem_map.1 hm
      obtain ⟨i, hi, rfl⟩ := List.getElem_of_mem hq
      rw [List.mem_map]
      by_cases hij : i = j
      · subst hij
        rw [List.getElem?_eq_getElem hi] at hj; cases hj
        exact ⟨(G[i].1, x, G[i].2.2 ++ [S[k]]), List.mem_iff_getElem?.2 ⟨i, List.getElem?_set_self hi⟩, rfl⟩
      · refine ⟨G[i], ?_, rfl⟩
        rw [List.mem_iff_getElem?]
        exact ⟨i, by rw [List.getElem?_set_ne (Ne.symm hij), List.getElem?_eq_getElem hi]⟩)
    rw [take_one hk, List.filter_append, gr.none_ s hs']
    have : ¬ S[k].Item = s := fun e => hs' (by rw [← e, ← he]; exact List.mem_map_of_mem (List.mem_of_getElem? hj))
    simp [this]
theorem Groups.fresh {S : List Lot} {k : Nat} {psI : Ents (List UInt8) AVal} {G : List Gp} (gr : Groups S k psI G) (hk : k < S.length) (he : S[k].Item ∉ G.map (·.1)) (x : AVal) (c : Nat) :
    Groups S (k + 1) (putP psI S[k].Item x c) (G ++ [(S[k].Item, x, [S[k]])]) where
  get s := by
    rw [getP_put, List.find?_append]
    by_cases e : s = S[k].Item
    · subst e
      have : (G.find? fun g => decide (g.1 = S[k].Item)) = none := by
        rw [List.find?_eq_none]; intro g hg; simp; intro e; exact he (by rw [← e]; exact List.mem_map_of_mem hg)
      rw [if_pos rfl, this]; simp
    · rw [if_neg e, gr.get s]
      simp [Ne.symm e]
  nd := by
    rw [List.map_append, List.nodup_append]
    exact ⟨gr.nd, List.pairwise_singleton _ _, fun a ha b hb e => he (by simp at hb; rw [← hb, ← e]; exact ha)⟩
  lots q hq := by
    rw [take_one hk, List.filter_append]
    rcases List.mem_append.1 hq with hq | hq
    · have : ¬ S[k].Item = q.1 := fun e => he (by rw [e]; exact List.mem_map_of_mem hq)
      rw [← gr.lots q hq]; simp [this]
    · rw [List.mem_singleton.1 hq]
      simp only
      rw [gr.none_ _ he]; simp
  none_ s hs := by
    rw [take_one hk, List.filter_append]
    have h1 : s ∉ G.map (·.1) := fun hm => hs (by rw [List.map_append]; exact List.mem_append_left _ hm)
    have h2 : ¬ S[k].Item = s := fun e => hs (by rw [List.map_append]; simp [e])
    rw [gr.none_ s h1]; simp [h2]

theorem sortLots_nodup {L : List Lot} (h : (L.map Lot.Id).Nodup) : ((sortLots L).map Lot.Id).Nodup := ((sortLots_perm L).map Lot.Id).nodup_iff.2 h
/-- What a map of amounts tells of lots. -/
def Tells (L : List Lot) (ps : Ents Int Int) (left : Lf) : Prop := ∀ l ∈ L, getP ps l.Id = some (left l.Id)
theorem Tells.put {L : List Lot} {ps : Ents Int Int} {left : Lf} (h : Tells L ps left) (n v : Int) (c : Nat) : Tells L (putP ps n v c) (fun i => if i = n then v else left i) := fun l hl => by
  rw [getP_put]
  by_cases e : l.Id = n
  · rw [if_pos e]; simp [e]
  · rw [if_neg e, h l hl]; simp [e]
structure Small (st : FS5) : Prop where
  left : ∀ n, st.left n ≤ 1073741824
  need : st.need ≤ 1125899906842624
theorem stepU_small {s : FS5} (h : FSOk s) (k : Small s) (i : Int) (w : Want) (l : Lot) : Small (stepU i w s l) := by
  have := takeOf_nn h l
  unfold stepU
  split
  · exact k
  · have := k.left l.Id; have := k.need
    refine ⟨fun n => ?_, by simp only; omega⟩
    simp only; split
    · omega
    · exact k.left n
section
variable {h0 h : AHeap} {id : Nat} {L : List Lot} {W : List Want} {Q : AVal → AHeap → Prop} {Y1 : List AVal → AHeap → Prop} {v1 v8 v49 v50 v51 z : AVal} {Rz : List (List AVal)}
/-- One want is filled. -/
theorem fill_in (s1 : window_Has.Spec C N) {S : List Lot} (hz : SlX h0 6 z (S.map Lot.cs) Rz) (hS : ∀ l ∈ S, l ∈ L) (hSl : S.length ≤ 300) {w : Want} {at_ : Nat} {left : Lf} {out : List Use} (hok : FSOk ⟨left, w.Qty, out⟩) (hsm : Small ⟨left, w.Qty, out⟩) {x : AVal} {ps : Ents Int Int} {c : Nat}
    (ho : Owns h0 h [.blk id (mapBlk (encM kI vI ps) c), .sl 3 x (out.map Use.cs) []]) (ht : Tells L ps left) (hout : out.length ≤ 50000000)
    (hk : ∀ h' x' ps' c', Owns h0 h' [.blk id (mapBlk (encM kI vI ps') c'), .sl 3 x' ((S.foldl (stepU at_ w) ⟨left, w.Qty, out⟩).out.map Use.cs) []] → Tells L ps' (S.foldl (stepU at_ w) ⟨left, w.Qty, out⟩).left → (S.foldl (stepU at_ w) ⟨left, w.Qty, out⟩).out.length ≤ out.length + S.length →
      flow_fill.k1 C N Q Y1 v1 (.mp id) v8 x' (.int .i64 (S.foldl (stepU at_ w) ⟨left, w.Qty, out⟩).need) v49 v50 v51 h') :
    LoopR (flow_fill.l3 C N Q Y1 v1 (.mp id) v8 (.int .i64 (at_ : Int)) v49 v50 v51 z (.int .i64 (S.length : Int)) (.agg w.cs)) [x, .int .i64 w.Qty, .int .i64 0] h := by
  refine LoopR.intro (fun t vs hh => ∃ (j : Nat) (x : AVal) (ps : Ents Int Int) (c : Nat) (st : FS5), j + t = S.length ∧ st = (S.take j).foldl (stepU at_ w) ⟨left, w.Qty, out⟩ ∧ vs = [x, .int .i64 st.need, .int .i64 (j : Int)] ∧
    Owns h0 hh [.blk id (mapBlk (encM kI vI ps) c), .sl 3 x (st.out.map Use.cs) []] ∧ Tells L ps st.left ∧ FSOk st ∧ Small st ∧ st.out.length ≤ out.length + j) S.length ?_ ⟨0, x, ps, c, _, by omega, rfl, rfl, ho, ht, hok, hsm, by simp⟩
  rintro Y t vs hh ⟨j, x, ps, c, st, htj, hst, rfl, o, hT, hok, hsm, hol⟩ hY
  simp -dsimp only [flow_fill.l3, flow_fill.k2, lssN, B.pv_some]
  refine B.cond_bool (fun hb => ?_) (fun hb => ?_) <;> simp only [decide_eq_true_eq, decide_eq_false_iff_not] at hb
  · have hzz := hz.mono o.le
    have hg : (S.map Lot.cs)[j]? = some (S[j]).cs := by rw [List.getElem?_map, List.getElem?_eq_getElem hb]; rfl
    have hidx : V.idxS 6 z (.int .i64 (j : Int)) = some (elp 6 z j 0) := hzz.idxN (by simpa using hb)
    have hlk : A.lkp hh (some .i) (some (.int .i64 0)) false (.mp id) (.int .i64 S[j].Id) = some (.int .i64 (st.left S[j].Id)) := by
      have := o.lkp 0 rfl keyI (0 : Int) S[j].Id
      rw [hT _ (hS _ (List.getElem_mem hb))] at this
      exact this
    have tk := takeOf_nn hok S[j]
    have sm1 := hsm.left S[j].Id; have sm2 := hsm.need
    have lk0 := hok.left S[j].Id
    have hnext : (S.take (j + 1)).foldl (stepU at_ w) ⟨left, w.Qty, out⟩ = stepU at_ w st S[j] := by rw [take_one hb, List.foldl_append, ← hst]; rfl
    have fin : ∀ (x' : AVal) (ps' : Ents Int Int) (c' : Nat) (h' : AHeap), Owns h0 h' [.blk id (mapBlk (encM kI vI ps') c'), .sl 3 x' ((stepU at_ w st S[j]).out.map Use.cs) []] → Tells L ps' (stepU at_ w st S[j]).left → (stepU at_ w st S[j]).out.length ≤ out.length + (j + 1) →
        Y [x', .int .i64 (stepU at_ w st S[j]).need, .int .i64 ((j + 1 : Nat) : Int)] h' := fun x' ps' c' h' o' hT' hl' =>
      hY (S.length - (j + 1)) _ _ (by omega) ⟨j + 1, x', ps', c', _, by omega, hnext.symm, rfl, o', hT', stepU_ok hok _ _ _, stepU_small hok hsm _ _ _, hl'⟩
    have hadd := add1 (show j < 4611686018427387904 by omega)
    simp -dsimp only [hidx, B.ldn_eq, hzz.elem hg, setLot6, lotId, B.al_agg, hlk, V.min2_int, V.bin_eql, B.pv_some]
    have hte : min st.need (st.left S[j].Id) = takeOf st S[j] := rfl
    rw [hte]
    by_cases h0 : takeOf st S[j] = 0
    · have hs : stepU at_ w st S[j] = st := by unfold stepU; rw [if_pos (.inl h0)]
      rw [hs] at fin
      simp -dsimp only [h0, decide_true, B.gd_f, Bool.not_true, B.gdb_false, B.pick_t, B.cond_true, hadd, B.pv_some, B.al_agg]
      exact fin x ps c hh o hT (by omega)
    · simp -dsimp only [h0, decide_false, B.gd_f, Bool.not_false, B.gdb_true, lotDays, wantDay, B.pv_some, B.al_agg]
      refine s1 _ _ _ _ _ ?_
      simp -dsimp only [h0, decide_false, V.un_not, B.pv_some, B.gd_f, Bool.not_false, B.gdb_true, B.pick_f]
      refine B.cond_bool (fun hc => ?_) (fun hc => ?_)
      · have hs : stepU at_ w st S[j] = st := by unfold stepU; rw [if_pos (.inr (by simpa using hc))]
        rw [hs] at fin
        simp -dsimp only [hadd, B.pv_some]
        exact fin x ps c hh o hT (by omega)
      · have hs : stepU at_ w st S[j] = ⟨fun n => if n = S[j].Id then st.left S[j].Id - takeOf st S[j] else st.left n, st.need - takeOf st S[j], st.out ++ [⟨at_, S[j].Id, takeOf st S[j]⟩]⟩ := by
          unfold stepU; rw [if_neg]
          intro hcc; rcases hcc with hcc | hcc
          · exact h0 hcc
          · rw [hcc] at hc; cases hc
        rw [hs] at fin
        simp -dsimp only [lotId, hlk, V.bin_sub, B.pv_some, B.al_agg]
        rw [wrap_i64 (n := st.left S[j].Id - takeOf st S[j]) (by omega) (by omega)]
        refine o.mset 0 rfl keyI S[j].Id (st.left S[j].Id - takeOf st S[j]) fun h2 o2 _ _ => ?_
        simp -dsimp only [lotId, bldUse, fillUse1, V.bin_sub, B.pv_some, B.al_agg]
        rw [wrap_i64 (n := st.need - takeOf st S[j]) (by omega) (by omega)]
        simp only [List.set_cons_zero] at o2
        refine o2.push 1 rfl (cs := Use.cs ⟨at_, S[j].Id, takeOf st S[j]⟩) rfl (by omega) (by simp; omega) (by simp [maxLen]; omega) fun x' h3 o3 _ => ?_
        simp -dsimp only [hadd, B.pv_some]
        refine fin x' _ _ h3 (by simpa using o3) (hT.put _ _ _) (by simp; omega)
  · rw [List.take_of_length_le (by omega)] at hst
    subst hst
    exact hk hh x ps c o hT (by omega)
end
end Go.Ab

/- What is proved: contract of filling wants, all together. No conditions. -/
set_option linter.unusedVariables false
set_option linter.unusedSimpArgs false
namespace Go.Ab
variable {C : CSem} {N : Nat → Nat}
theorem getPush {α : Type} {l : List α} (a : α) {n : Nat} (h : n = l.length) : (l ++ [a])[n]? = some a := by subst h; simp
theorem setPush {α : Type} {l : List α} (a b : α) {n : Nat} (h : n = l.length) : (l ++ [a]).set n b = l ++ [b] := by subst h; rw [List.set_append_right _ _ (Nat.le_refl _)]; simp
structure Bnd (left : Lf) : Prop where
  nn : LfOk left
  le : ∀ n, left n ≤ 1073741824
theorem foldU_small {i : Int} {w : Want} : ∀ (S : List Lot) {s : FS5}, FSOk s → Small s → Small (S.foldl (stepU i w) s)
  | [], _, _, h => h
  | l :: S, _, h, k => foldU_small S (stepU_ok h i w l) (stepU_small h k i w l)
theorem fillAll_cons {L : List Lot} {W : List Want} (p : Fin W.length) (ps : List (Fin W.length)) (left : Lf) (out : List Use) : fillAll L W (p :: ps) left out = if 0 < (fillOne L (p.val : Int) W[p] left out).need then none else fillAll L W ps (fillOne L (p.val : Int) W[p] left out).left (fillOne L (p.val : Int) W[p] left out).out := rfl
theorem rowOf_le (L : List Lot) (w : Want) : (rowOf L w).length ≤ L.length := by
  unfold rowOf
  exact Nat.le_trans (List.length_filter_le _ _) (by rw [sortLots_len]; exact Nat.le_refl _)
section
variable {h0 h : AHeap} {id idI : Nat} {L : List Lot} {W : List Want} {Q : AVal → AHeap → Prop} {y z : AVal} {Rw : List (List AVal)}
/-- All wants are filled, one after another. -/
theorem fill_days (s1 : window_Has.Spec C N) (hy : SlX h0 3 y (W.map Want.cs) Rw) (hz : SlX h0 1 z ((dayOrder W).map fc) []) (hL : L.length ≤ 300) (hW : W.length ≤ 20000) (hw : ∀ w ∈ W, wantRight w = true)
    (hit : ∀ s : List UInt8, ∃ x Rx, (∀ h', h0.le h' → A.lkp h' (some .s) (some .nils) false (.mp idI) (.str s) = some x) ∧ SlX h0 6 x (((sortLots L).filter fun l => decide (l.Item = s)).map Lot.cs) Rx)
    {left : Lf} (hb0 : Bnd left) {ps : Ents Int Int} {c : Nat} (ho : Owns h0 h [.blk id (mapBlk (encM kI vI ps) c)]) (ht : Tells L ps left)
    (hno : ∀ h', h0.le h' → fillAll L W (dayOrder W) left [] = none → Q (.tup [.nils, .nilm, .bool false]) h')
    (hyes : ∀ h' us lf x' ps' c', fillAll L W (dayOrder W) left [] = some (us, lf) → Owns h0 h' [.blk id (mapBlk (encM kI vI ps') c'), .sl 3 x' (us.map Use.cs) []] → Tells L ps' lf → Bnd lf → us.length ≤ 6000000 → Q (.tup [x', .mp id, .bool true]) h') :
    LoopR (flow_fill.l7 C N Q y (.mp id) (.mp idI) z (.int .i64 (W.length : Int))) [.nils, .int .i64 0] h := by
  refine LoopR.intro (fun t vs hh => ∃ (k : Nat) (x : AVal) (ps : Ents Int Int) (c : Nat) (lf : Lf) (out : List Use), k + t = W.length ∧ vs = [x, .int .i64 (k : Int)] ∧ Owns h0 hh [.blk id (mapBlk (encM kI vI ps) c), .sl 3 x (out.map Use.cs) []] ∧ Tells L ps lf ∧ Bnd lf ∧ out.length ≤ 300 * k ∧
    fillAll L W ((dayOrder W).drop k) lf out = fillAll L W (dayOrder W) left []) W.length ?_ ⟨0, .nils, ps, c, left, [], by omega, rfl, by simpa using ho.nils 3, ht, hb0, by simp, by simp⟩
  rintro Y t vs hh ⟨k, x, ps, c, lf, out, hkt, rfl, o, hT, hB, hol, hf⟩ hY
  simp -dsimp only [flow_fill.l7, flow_fill.k6, lssN, B.pv_some]
  refine B.cond_bool (fun hb => ?_) (fun hb => ?_) <;> simp only [decide_eq_true_eq, decide_eq_false_iff_not] at hb
  · have hk' : k < (dayOrder W).length := by rw [dayOrder_len]; exact hb
    have hzz := hz.mono o.le
    have hyy := hy.mono o.le
    have hidx : V.idxS 1 z (.int .i64 (k : Int)) = some (elp 1 z k 0) := hzz.idxN (by simpa using hk')
    have hg : ((dayOrder W).map fc)[k]? = some (fc (dayOrder W)[k]) := by rw [List.getElem?_map, List.getElem?_eq_getElem hk']; rfl
    have hidy : V.idxS 3 y (.int .i64 ((dayOrder W)[k].val : Int)) = some (elp 3 y (dayOrder W)[k].val 0) := hyy.idxN (by simp)
    have hgy : (W.map Want.cs)[(dayOrder W)[k].val]? = some (W[(dayOrder W)[k]]).cs := by rw [List.getElem?_map, List.getElem?_eq_getElem (dayOrder W)[k].2]; rfl
    have wr := wantRight_facts (hw W[(dayOrder W)[k]] (List.getElem_mem _))
    obtain ⟨gx, Rx, glk, gs⟩ := hit W[(dayOrder W)[k]].Item
    have gl := gs.lenSl
    rw [List.length_map] at gl
    have rl := rowOf_le L W[(dayOrder W)[k]]
    simp -dsimp only [hidx, B.ld_eq, hzz.cell hg, flow_fill.k5, hidy, B.ldn_eq, hyy.elem hgy, setWant, wantQty, flow_fill.k4, wantItem, B.al_agg, glk _ o.le, gl, B.pv_some]
    have hd : (dayOrder W).drop k = (dayOrder W)[k] :: (dayOrder W).drop (k + 1) := List.drop_eq_getElem_cons hk'
    rw [hd, fillAll_cons] at hf
    have hok : FSOk ⟨lf, W[(dayOrder W)[k]].Qty, out⟩ := ⟨hB.nn, by simp only; omega⟩
    have hsm : Small ⟨lf, W[(dayOrder W)[k]].Qty, out⟩ := ⟨hB.le, by simp only; omega⟩
    refine fill_in s1 (S := rowOf L W[(dayOrder W)[k]]) gs (fun l hl => (sortLots_perm L).mem_iff.1 (List.mem_filter.1 hl).1) (by omega) hok hsm o hT (by omega) fun h' x' ps' c' o' hT' hl' => ?_
    have e : (rowOf L W[(dayOrder W)[k]]).foldl (stepU ((dayOrder W)[k].val : Int) W[(dayOrder W)[k]]) ⟨lf, W[(dayOrder W)[k]].Qty, out⟩ = fillOne L ((dayOrder W)[k].val : Int) W[(dayOrder W)[k]] lf out := rfl
    have hok' : FSOk (fillOne L ((dayOrder W)[k].val : Int) W[(dayOrder W)[k]] lf out) := foldU_ok _ hok
    have hsm' : Small (fillOne L ((dayOrder W)[k].val : Int) W[(dayOrder W)[k]] lf out) := foldU_small _ hok hsm
    simp only [e] at o' hT' hl' ⊢
    simp -dsimp only [flow_fill.k1, V.bin_gtr, B.pv_some]
    refine B.cond_bool (fun hc => ?_) (fun hc => ?_)
    · rw [decide_eq_true_eq] at hc
      rw [if_pos (by omega)] at hf
      exact hno _ o'.le hf.symm
    · rw [decide_eq_false_iff_not] at hc
      rw [if_neg (by omega)] at hf
      simp -dsimp only [add1 (show k < 4611686018427387904 by omega), B.pv_some]
      exact hY (W.length - (k + 1)) _ _ (by omega) ⟨k + 1, x', ps', c', _, _, by omega, rfl, o', hT', ⟨hok'.left, hsm'.left⟩, by omega, hf⟩
  · rw [List.drop_eq_nil_of_le (by rw [dayOrder_len]; omega)] at hf
    exact hyes hh out lf x ps c hf.symm o hT hB (by omega)
/-- The maps are filled. -/
theorem fill_maps {S : List Lot} {v1 : AVal} {xs : AVal} (hS : S.length ≤ 300) {ci : Nat} (ho : Owns h0 h [.blk id (mapBlk (encM kI vI []) 0), .blk idI (mapBlk (encM kS vA []) ci), .sl 6 xs (S.map Lot.cs) []])
    (hn : (S.map Lot.Id).Nodup)
    (hk : ∀ h' psL cL psI cI G, Owns h0 h' ([.blk id (mapBlk (encM kI vI psL) cL), .blk idI (mapBlk (encM kS vA psI) cI), .sl 6 xs (S.map Lot.cs) []] ++ G.map gOb) → Groups S S.length psI G → (∀ l ∈ S, getP psL l.Id = some l.Qty) →
      B.call C (N 240) [v1] h' fun v49 h => B.pv (V.lenSl v49) fun v50 => LoopR (flow_fill.l7 C N Q v1 (.mp id) (.mp idI) v49 v50) [.nils, (.int .i64 0)] h) :
    LoopR (flow_fill.l9 C N Q v1 (.mp id) (.mp idI) xs (.int .i64 (S.length : Int))) [.int .i64 0] h := by
  refine LoopR.intro (fun t vs hh => ∃ (k : Nat) (psL : Ents Int Int) (cL : Nat) (psI : Ents (List UInt8) AVal) (cI : Nat) (G : List Gp), k + t = S.length ∧ vs = [.int .i64 (k : Int)] ∧
    Owns h0 hh ([.blk id (mapBlk (encM kI vI psL) cL), .blk idI (mapBlk (encM kS vA psI) cI), .sl 6 xs (S.map Lot.cs) []] ++ G.map gOb) ∧ Groups S k psI G ∧ (∀ l ∈ S.take k, getP psL l.Id = some l.Qty)) S.length ?_
    ⟨0, [], 0, [], ci, [], by omega, rfl, by simpa using ho, ⟨fun s => by simp [getP], by simp, by simp, by simp⟩, by simp⟩
  rintro Y t vs hh ⟨k, psL, cL, psI, cI, G, hkt, rfl, o, gr, hq⟩ hY
  simp -dsimp only [flow_fill.l9, flow_fill.k8, lssN, B.pv_some]
  refine B.cond_bool (fun hb => ?_) (fun hb => ?_) <;> simp only [decide_eq_true_eq, decide_eq_false_iff_not] at hb
  · have hz := o.slAt 2 rfl
    have hg : (S.map Lot.cs)[k]? = some (S[k]).cs := by rw [List.getElem?_map, List.getElem?_eq_getElem hb]; rfl
    have hidx : V.idxS 6 xs (.int .i64 (k : Int)) = some (elp 6 xs k 0) := hz.idxN (by simpa using hb)
    simp -dsimp only [hidx, B.ldn_eq, hz.elem hg, setLot6, lotId, lotQty, B.al_agg, B.pv_some]
    refine o.mset 0 rfl keyI S[k].Id S[k].Qty fun h2 o2 _ _ => ?_
    simp only [List.cons_append, List.nil_append, List.set_cons_zero] at o2
    have hlk : A.lkp h2 (some .s) (some .nils) false (.mp idI) (.str S[k].Item) = some ((getP psI S[k].Item).getD .nils) := o2.lkp 1 rfl keyS (v := vA) AVal.nils S[k].Item
    simp -dsimp only [lotItem, getLot6, B.al_agg, hlk, fillLot1, B.pv_some]
    have hq' : ∀ l ∈ S.take (k + 1), getP (putP psL S[k].Id S[k].Qty cL) l.Id = some l.Qty := fun l hl => by
      rw [getP_put]
      rw [take_one hb] at hl
      rcases List.mem_append.1 hl with hl | hl
      · rw [if_neg, hq l hl]
        intro e
        obtain ⟨j, hj, rfl⟩ := List.getElem_of_mem hl
        rw [List.length_take] at hj
        rw [List.getElem_take] at e
        have := nodup_inj hn (i := j) (j := k) (by simp; omega) (by simpa using hb) (by simpa using e)
        omega
      · rw [List.mem_singleton.1 hl, if_pos rfl]
    have hgl : ∀ g ∈ G, g.2.2.length ≤ 300 := fun g hg => by
      rw [gr.lots g hg]
      exact Nat.le_trans (List.length_filter_le _ _) (by rw [List.length_take]; omega)
    have hget := gr.get S[k].Item
    by_cases hin : S[k].Item ∈ G.map (·.1)
    · obtain ⟨j, hj, e⟩ := List.getElem_of_mem hin
      have hj' : j < G.length := by simpa using hj
      have hgj : G[j]? = some G[j] := List.getElem?_eq_getElem hj'
      have e2 : G[j].1 = S[k].Item := by simpa using e
      rw [← e2, find_at gr.nd hgj, e2] at hget
      have hl300 := hgl _ (List.getElem_mem hj')
      rw [hget]
      simp only [Option.map_some, Option.getD_some]
      have ob : ([Ob.blk id (mapBlk (encM kI vI (putP psL S[k].Id S[k].Qty cL)) (clkP psL S[k].Id cL)), .blk idI (mapBlk (encM kS vA psI) cI), .sl 6 xs (S.map Lot.cs) []] ++ G.map gOb)[3 + j]? = some (.sl 6 G[j].2.1 (G[j].2.2.map Lot.cs) []) := by
        rw [List.getElem?_append_right (by simp)]
        simp [hj', gOb]
      refine o2.push (3 + j) ob (cs := Lot.cs S[k]) rfl (by omega) (by simp; omega) (by simp [maxLen]; omega) fun x' h3 o3 _ => ?_
      have e3 : ([Ob.blk id (mapBlk (encM kI vI (putP psL S[k].Id S[k].Qty cL)) (clkP psL S[k].Id cL)), .blk idI (mapBlk (encM kS vA psI) cI), .sl 6 xs (S.map Lot.cs) []] ++ G.map gOb).set (3 + j) (.sl 6 x' (G[j].2.2.map Lot.cs ++ [Lot.cs S[k]]) []) =
          [Ob.blk id (mapBlk (encM kI vI (putP psL S[k].Id S[k].Qty cL)) (clkP psL S[k].Id cL)), .blk idI (mapBlk (encM kS vA psI) cI), .sl 6 xs (S.map Lot.cs) []] ++ (G.set j (G[j].1, x', G[j].2.2 ++ [S[k]])).map gOb := by
        rw [List.set_append_right _ _ (by simp)]
        simp [gOb]
      have o3' : Owns h0 h3 _ := o3
      rw [show (Ob.blk id (mapBlk (encM kI vI (putP psL S[k].Id S[k].Qty cL)) (clkP psL S[k].Id cL)) :: .blk idI (mapBlk (encM kS vA psI) cI) :: .sl 6 xs (S.map Lot.cs) [] :: G.map gOb).set (3 + j) (Ob.sl 6 x' (G[j].2.2.map Lot.cs ++ [Lot.cs S[k]]) []) = _ from e3] at o3'
      refine o3'.mset 1 rfl keyS S[k].Item x' fun h4 o4 _ _ => ?_
      simp -dsimp only [add1 (show k < 4611686018427387904 by omega), B.pv_some]
      exact hY (S.length - (k + 1)) _ _ (by omega) ⟨k + 1, _, _, _, _, _, by omega, rfl, o4, gr.old hb hgj e2 x' cI, hq'⟩
    · have hnone : (G.find? fun g => decide (g.1 = S[k].Item)) = none := by
        rw [List.find?_eq_none]; intro g hg; simp; intro e; exact hin (by rw [← e]; exact List.mem_map_of_mem hg)
      rw [hnone] at hget
      rw [hget]
      simp only [Option.map_none, Option.getD_none]
      have o2' := o2.nils 6
      refine o2'.push (3 + G.length) (es := 6) (x := .nils) (L := []) (R := []) ?_ (cs := Lot.cs S[k]) rfl (by omega) (by simp) (by simp [maxLen]) fun x' h3 o3 _ => ?_
      · exact getPush _ (by simp only [List.length_cons, List.length_map]; omega)
      have e3 : (Ob.blk id (mapBlk (encM kI vI (putP psL S[k].Id S[k].Qty cL)) (clkP psL S[k].Id cL)) :: .blk idI (mapBlk (encM kS vA psI) cI) :: .sl 6 xs (S.map Lot.cs) [] :: G.map gOb ++ [Ob.sl 6 .nils [] []]).set (3 + G.length) (Ob.sl 6 x' ([] ++ [Lot.cs S[k]]) []) =
          [Ob.blk id (mapBlk (encM kI vI (putP psL S[k].Id S[k].Qty cL)) (clkP psL S[k].Id cL)), .blk idI (mapBlk (encM kS vA psI) cI), .sl 6 xs (S.map Lot.cs) []] ++ (G ++ [(S[k].Item, x', [S[k]])]).map gOb := by
        rw [setPush _ _ (by simp only [List.length_cons, List.length_map]; omega)]
        simp [gOb]
      have o3' : Owns h0 h3 _ := o3
      rw [e3] at o3'
      refine o3'.mset 1 rfl keyS S[k].Item x' fun h4 o4 _ _ => ?_
      simp -dsimp only [add1 (show k < 4611686018427387904 by omega), B.pv_some]
      exact hY (S.length - (k + 1)) _ _ (by omega) ⟨k + 1, _, _, _, _, _, by omega, rfl, o4, gr.fresh hb hin x' cI, hq'⟩
  · rw [List.take_of_length_le (by omega)] at hq
    have hkS : k = S.length := by omega
    subst hkS
    exact hk hh psL cL psI cI G o gr hq
end
end Go.Ab

/- What is proved: contracts: filling wants; what is left. No conditions. -/
set_option linter.unusedVariables false
set_option linter.unusedSimpArgs false
namespace Go.Ab
variable {C : CSem} {N : Nat → Nat}
def flow_fill.Spec (C : CSem) (N : Nat → Nat) : Prop := ∀ (x y : AVal) (L : List Lot) (W : List Want) (R S : List (List AVal)) (h : AHeap) (Q : AVal → AHeap → Prop), SlX h 6 x (L.map Lot.cs) R → SlX h 3 y (W.map Want.cs) S → L.length < 4611686018427387904 → W.length < 4611686018427387904 →
  (greedy L W = none → Q (.tup [.nils, .nilm, .bool false]) h) →
  (∀ h' us lf x' id ps c, greedy L W = some (us, lf) → mayBe L W = true → Owns h h' [.blk id (mapBlk (encM kI vI ps) c), .sl 3 x' (us.map Use.cs) []] → Tells L ps lf → Bnd lf → us.length ≤ 6000000 → Q (.tup [x', .mp id, .bool true]) h') → C (N 232) [x, y] h Q
theorem left0_bnd {L : List Lot} (h : ∀ l ∈ L, lotRight l = true) : Bnd (left0 L) := ⟨left0_ok h, fun i => by
  unfold left0
  cases hf : L.find? (fun a => decide (a.Id = i)) with
  | none => simp
  | some a => have := lotRight_facts (h a (List.mem_of_find?_eq_some hf)); simp only; omega⟩
theorem flow_fill.spec (i : flow_fill.Imp C N) (s1 : flow_together.Spec C N) (s2 : lot_Sort.Spec C N) (s3 : flow_days.Spec C N) (s4 : window_Has.Spec C N) : flow_fill.Spec C N := by
  intro x y L W R S h Q hx hy hlen hlen2 hno hyes
  apply i
  simp -dsimp only [flow_fill.cps, flow_fill.k11]
  refine s1 _ _ _ _ _ _ _ _ hx hy hlen hlen2 ?_
  simp -dsimp only [V.un_not, B.pv_some]
  cases hm : mayBe L W with
  | false =>
    simp -dsimp only [Bool.not_false, B.cond_true]
    exact dn_same (hno (by unfold greedy; rw [hm]; rfl))
  | true =>
    simp -dsimp only [Bool.not_true, B.cond_false]
    have hgr : greedy L W = fillAll L W (dayOrder W) (left0 L) [] := by unfold greedy; rw [hm]; rfl
    obtain ⟨f1, f2, f3, f4, f5⟩ := mayBe_facts hm
    refine (Owns.start h).newMap (K := Int) (T := Int) kI vI fun id h1 _ o1 _ => ?_
    simp -dsimp only [flow_fill.k10]
    refine o1.newMap (K := List UInt8) (T := AVal) kS vA fun idI h2 _ o2 _ => ?_
    simp only [List.nil_append, List.cons_append] at o2
    refine s2 _ _ _ _ _ (hx.mono o2.le) (by omega) fun xs h3 os => ?_
    have o3 := o2.join os
    have e1 := os.slAt 0 rfl
    have e2 := e1.lenSl
    rw [List.length_map] at e2
    simp -dsimp only [e2, B.pv_some]
    refine fill_maps (by rw [sortLots_len]; exact f1) o3 (sortLots_nodup f4) fun h4 psL cL psI cI G o4 gr hq => ?_
    refine s3 _ _ _ _ _ (hy.mono o4.le) f2 f5 fun z h5 oz => ?_
    have o5 := o4.join oz
    have ez := (oz.slAt 0 rfl).lenSl
    rw [List.length_map, dayOrder_len] at ez
    simp -dsimp only [ez, B.pv_some]
    have o6 := o5.perm (l' := ((.blk idI (mapBlk (encM kS vA psI) cI)) :: .sl 6 xs ((sortLots L).map Lot.cs) [] :: (G.map gOb ++ [.sl 1 z ((dayOrder W).map fc) []])) ++ [.blk id (mapBlk (encM kI vI psL) cL)]) (by
      simp only [List.cons_append, List.nil_append, List.append_assoc]
      refine List.Perm.trans ?_ (List.perm_append_comm (l₁ := [Ob.blk id (mapBlk (encM kI vI psL) cL)]) (l₂ := (.blk idI (mapBlk (encM kS vA psI) cI)) :: .sl 6 xs ((sortLots L).map Lot.cs) [] :: (G.map gOb ++ [.sl 1 z ((dayOrder W).map fc) []])) |>.trans ?_)
      · exact List.Perm.refl _
      · simp)
    obtain ⟨oa, ob⟩ := o6.out
    have zz : SlX _ 1 z ((dayOrder W).map fc) [] := oa.is (.sl 1 z ((dayOrder W).map fc) []) (by simp)
    have ii : _ = some (mapBlk (encM kS vA psI) cI) := oa.is (.blk idI (mapBlk (encM kS vA psI) cI)) (by simp)
    have memL : ∀ l, l ∈ sortLots L ↔ l ∈ L := fun l => (sortLots_perm L).mem_iff
    refine fill_days s4 (L := L) (W := W) (hy.mono oa.le) zz f1 f2 f5 (fun s => ?_) (left0_bnd f3) (c := cL) (ps := psL) ob (fun l hl => ?_) (fun h' hle hn => ?_) (fun h' us lf x' ps' c' he o' hT' hB' hl' => ?_)
    · have hg := gr.get s
      have hlk : ∀ h', AHeap.le _ h' → A.lkp h' (some .s) (some .nils) false (.mp idI) (.str s) = some ((getP psI s).getD .nils) := fun h' hle => lkp_blk keyS (v := vA) (hle _ _ ii) AVal.nils s false
      refine ⟨_, [], hlk, ?_⟩
      rw [hg]
      · cases hf : G.find? fun g => decide (g.1 = s) with
        | none =>
          have : s ∉ G.map (·.1) := fun hm => by
            rw [List.find?_eq_none] at hf
            obtain ⟨g, hg1, hg2⟩ := List.mem_map.1 hm
            exact hf g hg1 (by simp [hg2])
          have e := gr.none_ s this
          rw [List.take_length] at e
          rw [e]
          exact SlX.nils _ _
        | some g =>
          have h1 := List.find?_some hf
          have h2 := List.mem_of_find?_eq_some hf
          simp only [decide_eq_true_eq] at h1
          have e := gr.lots g h2
          rw [List.take_length, h1] at e
          rw [← e]
          exact oa.is (gOb g) (by simp only [List.mem_cons, List.mem_append, List.mem_map]; exact .inr (.inr (.inl ⟨g, h2, rfl⟩)))
    · rw [hq l ((memL l).2 hl), left0_of f4 hl]
    · exact dn_le (AHeap.le_trans oa.le hle) (hno (hgr.trans hn))
    · exact dn_same (hyes h' us lf x' id ps' c' (hgr.trans he) hm (o'.back oa.le) hT' hB' hl')
def flow_Fits.Spec (C : CSem) (N : Nat → Nat) : Prop := ∀ (x y : AVal) (L : List Lot) (W : List Want) (R S : List (List AVal)) (h : AHeap) (Q : AVal → AHeap → Prop), SlX h 6 x (L.map Lot.cs) R → SlX h 3 y (W.map Want.cs) S → L.length < 4611686018427387904 → W.length < 4611686018427387904 →
  Q (.bool (greedy L W).isSome) h → C (N 215) [x, y] h Q
theorem flow_Fits.spec (i : flow_Fits.Imp C N) (s1 : flow_fill.Spec C N) : flow_Fits.Spec C N := by
  intro x y L W R S h Q hx hy hlen hlen2 hq
  apply i
  simp -dsimp only [flow_Fits.cps]
  refine s1 _ _ _ _ _ _ _ _ hx hy hlen hlen2 (fun hn => ?_) fun h' us lf x' id ps c he _ o _ _ _ => ?_
  · rw [hn] at hq
    simp -dsimp only [V.ext_tup, List.getElem?_cons_zero, List.getElem?_cons_succ, B.pv_some]
    exact dn_same hq
  · rw [he] at hq
    simp -dsimp only [V.ext_tup, List.getElem?_cons_zero, List.getElem?_cons_succ, B.pv_some]
    exact dn_le o.le hq
/-- What Fill answers. -/
def FillQ (L : List Lot) (W : List Want) (h : AHeap) (Q : AVal → AHeap → Prop) : Prop :=
  (greedy L W = none → Q (.tup [.nils, .bool false]) h) ∧ ∀ us lf, greedy L W = some (us, lf) → us.length ≤ 6000000 → ∀ h' x', Owns h h' [.sl 3 x' (us.map Use.cs) []] → Q (.tup [x', .bool true]) h'
def flow_Fill.Spec (C : CSem) (N : Nat → Nat) : Prop := ∀ (x y : AVal) (L : List Lot) (W : List Want) (R S : List (List AVal)) (h : AHeap) (Q : AVal → AHeap → Prop), SlX h 6 x (L.map Lot.cs) R → SlX h 3 y (W.map Want.cs) S → L.length < 4611686018427387904 → W.length < 4611686018427387904 →
  FillQ L W h Q → C (N 219) [x, y] h Q
theorem flow_Fill.spec (i : flow_Fill.Imp C N) (s1 : flow_fill.Spec C N) : flow_Fill.Spec C N := by
  intro x y L W R S h Q hx hy hlen hlen2 hq
  apply i
  simp -dsimp only [flow_Fill.cps, flow_Fill.k1]
  refine s1 _ _ _ _ _ _ _ _ hx hy hlen hlen2 (fun hn => ?_) fun h' us lf x' id ps c he _ o _ _ hl => ?_
  · simp -dsimp only [V.ext_tup, List.getElem?_cons_zero, List.getElem?_cons_succ, B.pv_some]
    exact dn_same (hq.1 hn)
  · simp -dsimp only [V.ext_tup, List.getElem?_cons_zero, List.getElem?_cons_succ, B.pv_some]
    exact dn_same (hq.2 us lf he hl h' x' (o.sub (by simp)))
/-- What is left of lots. -/
def leftLots (L : List Lot) (lf : Lf) : List Lot := L.filterMap fun l => if 0 < lf l.Id then some { l with Qty := lf l.Id } else none
/-- What Left answers. -/
def LeftQ (L : List Lot) (W : List Want) (h : AHeap) (Q : AVal → AHeap → Prop) : Prop :=
  (greedy L W = none → Q (.tup [.nils, .bool false]) h) ∧ ∀ us lf, greedy L W = some (us, lf) → ∀ h' x', Owns h h' [.sl 6 x' ((leftLots L lf).map Lot.cs) []] → Q (.tup [x', .bool true]) h'
def flow_Left.Spec (C : CSem) (N : Nat → Nat) : Prop := ∀ (x y : AVal) (L : List Lot) (W : List Want) (R S : List (List AVal)) (h : AHeap) (Q : AVal → AHeap → Prop), SlX h 6 x (L.map Lot.cs) R → SlX h 3 y (W.map Want.cs) S → L.length < 4611686018427387904 → W.length < 4611686018427387904 →
  LeftQ L W h Q → C (N 221) [x, y] h Q
theorem leftLots_succ {L : List Lot} {lf : Lf} {k : Nat} (hk : k < L.length) : leftLots (L.take (k + 1)) lf = leftLots (L.take k) lf ++ leftLots [L[k]] lf := by
  unfold leftLots
  rw [take_one hk, List.filterMap_append]
theorem setLotQty (l : Lot) (n : Int) : V.setF 4 (.int .i64 n) (.agg l.cs) = some (.agg (Lot.cs { l with Qty := n })) := by simp
theorem flow_Left.spec (i : flow_Left.Imp C N) (s1 : flow_fill.Spec C N) : flow_Left.Spec C N := by
  intro x y L W R S h Q hx hy hlen hlen2 hq
  apply i
  simp -dsimp only [flow_Left.cps, flow_Left.k4]
  refine s1 _ _ _ _ _ _ _ _ hx hy hlen hlen2 (fun hn => ?_) fun h' us lf x' id ps c he hm o hT hB hl => ?_
  · simp -dsimp only [V.ext_tup, List.getElem?_cons_zero, List.getElem?_cons_succ, flow_Left.k3, V.un_not, Bool.not_false, B.cond_true, B.pv_some]
    exact dn_same (hq.1 hn)
  · have hL := (mayBe_facts hm).1
    have e1 := hx.lenSl
    rw [List.length_map] at e1
    simp -dsimp only [V.ext_tup, List.getElem?_cons_zero, List.getElem?_cons_succ, flow_Left.k3, V.un_not, Bool.not_true, B.cond_false, e1, B.pv_some]
    have o0 := (o.sub (l' := [.blk id (mapBlk (encM kI vI ps) c)]) (by simp)).nils 6
    refine LoopR.intro (fun t vs hh => ∃ (k : Nat) (x' : AVal), k + t = L.length ∧ vs = [x', .int .i64 (k : Int)] ∧ Owns h hh [.blk id (mapBlk (encM kI vI ps) c), .sl 6 x' ((leftLots (L.take k) lf).map Lot.cs) []] ∧ (leftLots (L.take k) lf).length ≤ k) L.length ?_ ⟨0, .nils, by omega, rfl, by simpa [leftLots] using o0, by simp [leftLots]⟩
    rintro Y t vs hh ⟨k, x2, hkt, rfl, o2, hle⟩ hY
    simp -dsimp only [flow_Left.l2, flow_Left.k1, lssN, B.pv_some]
    refine B.cond_bool (fun hb => ?_) (fun hb => ?_) <;> simp only [decide_eq_true_eq, decide_eq_false_iff_not] at hb
    · have hxx := hx.mono o2.le
      have hg : (L.map Lot.cs)[k]? = some (L[k]).cs := by rw [List.getElem?_map, List.getElem?_eq_getElem hb]; rfl
      have hidx : V.idxS 6 x (.int .i64 (k : Int)) = some (elp 6 x k 0) := hxx.idxN (by simpa using hb)
      have hlk : A.lkp hh (some .i) (some (.int .i64 0)) false (.mp id) (.int .i64 L[k].Id) = some (.int .i64 (lf L[k].Id)) := by
        have := o2.lkp 0 rfl keyI (0 : Int) L[k].Id
        rw [hT _ (List.getElem_mem hb)] at this
        exact this
      have hs := leftLots_succ (lf := lf) hb
      simp -dsimp only [hidx, B.ldn_eq, hxx.elem hg, setLot6, lotId, hlk, setLotQty, lotQty, getLot6, V.bin_gtr, B.al_agg, B.pv_some]
      refine B.cond_bool (fun hc => ?_) (fun hc => ?_) <;> simp only [decide_eq_true_eq, decide_eq_false_iff_not] at hc
      · have e : leftLots [L[k]] lf = [{ L[k] with Qty := lf L[k].Id }] := by simp [leftLots, show 0 < lf L[k].Id by omega]
        rw [e] at hs
        simp -dsimp only [getLot6, fillLot1, B.pv_some]
        refine o2.push 1 rfl (cs := Lot.cs { L[k] with Qty := lf L[k].Id }) rfl (by omega) (by simp; omega) (by simp [maxLen]; omega) fun x3 h3 o3 _ => ?_
        simp -dsimp only [add1 (show k < 4611686018427387904 by omega), B.pv_some]
        exact hY (L.length - (k + 1)) _ _ (by omega) ⟨k + 1, x3, by omega, rfl, by rw [hs]; simpa using o3, by rw [hs]; simp; omega⟩
      · have e : leftLots [L[k]] lf = [] := by simp [leftLots, show ¬ 0 < lf L[k].Id by omega]
        rw [e, List.append_nil] at hs
        simp -dsimp only [add1 (show k < 4611686018427387904 by omega), B.pv_some]
        exact hY (L.length - (k + 1)) _ _ (by omega) ⟨k + 1, x2, by omega, rfl, by rw [hs]; exact o2, by rw [hs]; omega⟩
    · rw [List.take_of_length_le (by omega)] at o2
      exact dn_same (hq.2 us lf he hh x2 (o2.sub (by simp)))
end Go.Ab

/- What is proved: uses that are checked, and when wants can be served (Hall's condition): plain facts. No program in sight. No conditions. -/
set_option linter.unusedVariables false
set_option linter.unusedSimpArgs false
namespace Go.Ab
structure CS where
  left : Lf
  need : Nat → Int
def wAt (W : List Want) (i : Nat) : Want := W.getD i ⟨[], 0, 0⟩
theorem wAt_get {W : List Want} {i : Nat} (h : i < W.length) : wAt W i = W[i] := by simp [wAt, h]
theorem wAt_out {W : List Want} {i : Nat} (h : W.length ≤ i) : wAt W i = ⟨[], 0, 0⟩ := by
  unfold wAt
  rw [List.getD_eq_getElem?_getD, List.getElem?_eq_none h]; rfl
def lotById (L : List Lot) (i : Int) : Option Lot := L.find? fun l => decide (l.Id = i)
def chkOk (W : List Want) (s : CS) (u : Use) (l : Lot) : Bool :=
  decide (0 ≤ u.Want) && decide (u.Want < (W.length : Int)) && decide (1 ≤ u.Qty) && decide (u.Qty ≤ s.left l.Id) && decide (u.Qty ≤ s.need u.Want.toNat) && serves l (wAt W u.Want.toNat)
def chkStep (s : CS) (u : Use) : CS := ⟨fun n => if n = u.Lot then s.left n - u.Qty else s.left n, fun i => if i = u.Want.toNat then s.need i - u.Qty else s.need i⟩
def chkRun (L : List Lot) (W : List Want) : CS → List Use → Option CS
  | s, [] => some s
  | s, u :: us => match lotById L u.Lot with
    | some l => bif chkOk W s u l then chkRun L W (chkStep s u) us else none
    | none => none
def csStart (L : List Lot) (W : List Want) : CS := ⟨left0 L, fun i => (wAt W i).Qty⟩
def checks (L : List Lot) (W : List Want) (us : List Use) : Bool := mayBe L W && match chkRun L W (csStart L W) us with
  | some s => (List.range W.length).all fun i => decide (s.need i = 0)
  | none => false
theorem lotById_some {L : List Lot} {i : Int} {l : Lot} (h : lotById L i = some l) : l ∈ L ∧ l.Id = i := by
  have h1 := List.find?_some h
  exact ⟨List.mem_of_find?_eq_some h, by simpa using h1⟩
theorem lotById_of {L : List Lot} (hn : (L.map Lot.Id).Nodup) {l : Lot} (h : l ∈ L) : lotById L l.Id = some l := by
  cases e : lotById L l.Id with
  | none => unfold lotById at e; rw [List.find?_eq_none] at e; have := e l h; simp at this
  | some a => have := lotById_some e; rw [id_inj hn this.1 h this.2]
structure CSOk (s : CS) : Prop where
  left : LfOk s.left
  need : ∀ i, 0 ≤ s.need i
structure ChkF (W : List Want) (s : CS) (u : Use) (l : Lot) : Prop where
  w0 : 0 ≤ u.Want
  w1 : u.Want.toNat < W.length
  q : 1 ≤ u.Qty
  ql : u.Qty ≤ s.left l.Id
  qn : u.Qty ≤ s.need u.Want.toNat
  sv : serves l (wAt W u.Want.toNat) = true
theorem chkOk_iff {W : List Want} {s : CS} {u : Use} {l : Lot} : chkOk W s u l = true ↔ ChkF W s u l := by
  simp only [chkOk, Bool.and_eq_true, decide_eq_true_eq]
  exact ⟨fun ⟨⟨⟨⟨⟨a, b⟩, c⟩, d⟩, e⟩, f⟩ => ⟨a, by omega, c, d, e, f⟩, fun ⟨a, b, c, d, e, f⟩ => ⟨⟨⟨⟨⟨a, by omega⟩, c⟩, d⟩, e⟩, f⟩⟩
theorem chkRun_cons {L : List Lot} {W : List Want} {s s' : CS} {u : Use} {us : List Use} (h : chkRun L W s (u :: us) = some s') : ∃ l, l ∈ L ∧ l.Id = u.Lot ∧ ChkF W s u l ∧ chkRun L W (chkStep s u) us = some s' := by
  unfold chkRun at h
  cases e : lotById L u.Lot with
  | none => rw [e] at h; cases h
  | some l =>
    rw [e] at h
    simp only at h
    cases c : chkOk W s u l with
    | false => rw [c] at h; cases h
    | true => rw [c] at h; exact ⟨l, (lotById_some e).1, (lotById_some e).2, chkOk_iff.1 c, h⟩
theorem chkStep_ok {W : List Want} {s : CS} {u : Use} {l : Lot} (hs : CSOk s) (hc : ChkF W s u l) (hl : l.Id = u.Lot) : CSOk (chkStep s u) := by
  refine ⟨fun n => ?_, fun i => ?_⟩ <;> unfold chkStep <;> simp only <;> split
  · rename_i e; subst e; have := hc.ql; rw [hl] at this; omega
  · exact hs.left n
  · rename_i e; subst e; have := hc.qn; omega
  · exact hs.need i
theorem chkRun_ok {L : List Lot} {W : List Want} : ∀ {us : List Use} {s s' : CS}, chkRun L W s us = some s' → CSOk s → CSOk s'
  | [], s, s', h, hs => by cases h; exact hs
  | u :: us, s, s', h, hs => by
    obtain ⟨l, h1, h2, h3, h4⟩ := chkRun_cons h
    exact chkRun_ok h4 (chkStep_ok hs h3 h2)
theorem chkRun_app {L : List Lot} {W : List Want} {vs : List Use} : ∀ {us : List Use} {s : CS}, chkRun L W s (us ++ vs) = (chkRun L W s us).bind fun s => chkRun L W s vs
  | [], s => rfl
  | u :: us, s => by
    rw [List.cons_append]
    simp only [chkRun]
    cases lotById L u.Lot with
    | none => rfl
    | some l =>
      simp only
      cases chkOk W s u l
      · rfl
      · exact chkRun_app
theorem chkRun_one {L : List Lot} {W : List Want} {s : CS} {u : Use} {l : Lot} (hn : (L.map Lot.Id).Nodup) (hl : l ∈ L) (he : l.Id = u.Lot) (hc : ChkF W s u l) : chkRun L W s [u] = some (chkStep s u) := by
  simp only [chkRun]
  rw [← he, lotById_of hn hl]
  simp only
  rw [chkOk_iff.2 hc]; rfl
theorem chkRun_serves {L : List Lot} {W : List Want} : ∀ {us : List Use} {s s' : CS}, chkRun L W s us = some s' → ∀ u ∈ us, ∃ l, l ∈ L ∧ l.Id = u.Lot ∧ u.Want.toNat < W.length ∧ serves l (wAt W u.Want.toNat) = true
  | [], s, s', h, u, hu => by cases hu
  | a :: us, s, s', h, u, hu => by
    obtain ⟨l, h1, h2, h3, h4⟩ := chkRun_cons h
    rcases List.mem_cons.1 hu with rfl | hu
    · exact ⟨l, h1, h2, h3.w1, h3.sv⟩
    · exact chkRun_serves h4 u hu

/-! Sums. -/
def sumF {α : Type} (f : α → Int) : List α → Int
  | [] => 0
  | a :: l => f a + sumF f l
theorem sumF_congr {α : Type} {f g : α → Int} : ∀ {l : List α}, (∀ a ∈ l, f a = g a) → sumF f l = sumF g l
  | [], _ => rfl
  | a :: l, h => by simp only [sumF]; rw [h a (by simp), sumF_congr fun b hb => h b (by simp [hb])]
theorem sumF_le {α : Type} {f g : α → Int} : ∀ {l : List α}, (∀ a ∈ l, f a ≤ g a) → sumF f l ≤ sumF g l
  | [], _ => Int.le_refl _
  | a :: l, h => by
    have h1 := h a (by simp)
    have h2 := sumF_le (l := l) fun b hb => h b (by simp [hb])
    simp only [sumF]; omega
theorem sumF_zero {α : Type} {f : α → Int} : ∀ {l : List α}, (∀ a ∈ l, f a = 0) → sumF f l = 0
  | [], _ => rfl
  | a :: l, h => by simp only [sumF]; rw [h a (by simp), sumF_zero fun b hb => h b (by simp [hb])]; rfl
theorem sumF_nn {α : Type} {f : α → Int} {l : List α} (h : ∀ a ∈ l, 0 ≤ f a) : 0 ≤ sumF f l := by
  have := sumF_le (f := fun _ => 0) (g := f) (l := l) h
  rw [sumF_zero fun _ _ => rfl] at this; exact this
/-- One place alone changes. -/
theorem sumF_upd {α : Type} {f g : α → Int} {a : α} {d : Int} : ∀ {l : List α}, l.Nodup → a ∈ l → (∀ b ∈ l, b ≠ a → f b = g b) → f a = g a + d → sumF f l = sumF g l + d
  | [], _, h, _, _ => by cases h
  | b :: l, hn, ha, ho, hd => by
    simp only [List.nodup_cons] at hn
    simp only [sumF]
    by_cases e : b = a
    · subst e
      rw [hd, sumF_congr fun c hc => ho c (by simp [hc]) fun e => hn.1 (by rw [← e]; exact hc)]
      omega
    · have ha' : a ∈ l := by rcases List.mem_cons.1 ha with h | h; exact absurd h.symm e; exact h
      rw [ho b (by simp) e, sumF_upd hn.2 ha' (fun c hc => ho c (by simp [hc])) hd]
      omega
/-- Does a lot serve one of some wants? -/
def nS (W : List Want) (S : Nat → Bool) (l : Lot) : Bool := (List.range W.length).any fun i => S i && serves l (wAt W i)
def needS (W : List Want) (need : Nat → Int) (S : Nat → Bool) : Int := sumF (fun i => bif S i then need i else 0) (List.range W.length)
def leftS (L : List Lot) (W : List Want) (left : Lf) (S : Nat → Bool) : Int := sumF (fun l => bif nS W S l then left l.Id else 0) L
def Hall (L : List Lot) (W : List Want) : Prop := ∀ S : Nat → Bool, needS W (csStart L W).need S ≤ leftS L W (csStart L W).left S
theorem nS_of {W : List Want} {S : Nat → Bool} {l : Lot} {i : Nat} (hi : i < W.length) (hS : S i = true) (hs : serves l (wAt W i) = true) : nS W S l = true := by
  unfold nS
  rw [List.any_eq_true]
  exact ⟨i, List.mem_range.2 hi, by rw [hS, hs]; rfl⟩
theorem nodup_of_map {α β : Type} {f : α → β} : ∀ {l : List α}, (l.map f).Nodup → l.Nodup
  | [], _ => List.Pairwise.nil
  | a :: l, h => by
    simp only [List.map_cons, List.nodup_cons] at h
    exact List.nodup_cons.2 ⟨fun ha => h.1 (List.mem_map_of_mem ha), nodup_of_map h.2⟩
theorem step_need {W : List Want} {s : CS} {u : Use} (S : Nat → Bool) (hu : u.Want.toNat < W.length) : needS W (chkStep s u).need S = needS W s.need S + (bif S u.Want.toNat then -u.Qty else 0) := by
  unfold needS
  refine sumF_upd (a := u.Want.toNat) List.nodup_range (List.mem_range.2 hu) (fun b _ hb => ?_) ?_
  · simp [chkStep, hb]
  · cases S u.Want.toNat <;> simp [chkStep]; omega
theorem step_left {L : List Lot} {W : List Want} {s : CS} {u : Use} {l : Lot} (S : Nat → Bool) (hn : (L.map Lot.Id).Nodup) (hl : l ∈ L) (he : l.Id = u.Lot) : leftS L W (chkStep s u).left S = leftS L W s.left S + (bif nS W S l then -u.Qty else 0) := by
  unfold leftS
  refine sumF_upd (a := l) (nodup_of_map hn) hl (fun b hb hne => ?_) ?_
  · have : b.Id ≠ u.Lot := fun e => hne (id_inj hn hb hl (by rw [e, he]))
    simp [chkStep, this]
  · cases nS W S l <;> simp [chkStep, he]; omega
theorem chk_phi {L : List Lot} {W : List Want} (hn : (L.map Lot.Id).Nodup) (S : Nat → Bool) : ∀ {us : List Use} {s s' : CS}, chkRun L W s us = some s' → needS W s.need S - leftS L W s.left S ≤ needS W s'.need S - leftS L W s'.left S
  | [], s, s', h => by cases h; exact Int.le_refl _
  | u :: us, s, s', h => by
    obtain ⟨l, h1, h2, h3, h4⟩ := chkRun_cons h
    have ih := chk_phi hn S h4
    rw [step_need S h3.w1, step_left S hn h1 h2] at ih
    have := h3.q
    cases hS : S u.Want.toNat with
    | true => rw [nS_of h3.w1 hS h3.sv, hS] at ih; simp only [cond_true] at ih; omega
    | false =>
      rw [hS] at ih
      cases hm : nS W S l <;> rw [hm] at ih <;> simp only [cond_true, cond_false] at ih <;> omega
theorem chk_phi_eq {L : List Lot} {W : List Want} (hn : (L.map Lot.Id).Nodup) (S : Nat → Bool) : ∀ {us : List Use} {s s' : CS}, chkRun L W s us = some s' → (∀ u ∈ us, ∀ l ∈ L, l.Id = u.Lot → nS W S l = true → S u.Want.toNat = true) →
    needS W s.need S - leftS L W s.left S = needS W s'.need S - leftS L W s'.left S
  | [], s, s', h, _ => by cases h; rfl
  | u :: us, s, s', h, hx => by
    obtain ⟨l, h1, h2, h3, h4⟩ := chkRun_cons h
    have ih := chk_phi_eq hn S h4 fun v hv => hx v (by simp [hv])
    rw [step_need S h3.w1, step_left S hn h1 h2] at ih
    cases hS : S u.Want.toNat with
    | true => rw [nS_of h3.w1 hS h3.sv, hS] at ih; simp only [cond_true] at ih; omega
    | false =>
      have hm : nS W S l = false := by
        cases hm : nS W S l with
        | false => rfl
        | true => have := hx u (by simp) l h1 h2 hm; rw [hS] at this; cases this
      rw [hS, hm] at ih
      simp only [cond_false] at ih; omega
theorem csStart_ok {L : List Lot} {W : List Want} (h : mayBe L W = true) : CSOk (csStart L W) := by
  obtain ⟨f1, f2, f3, f4, f5⟩ := mayBe_facts h
  refine ⟨left0_ok f3, fun i => ?_⟩
  simp only [csStart]
  by_cases hi : i < W.length
  · rw [wAt_get hi]; have := wantRight_facts (f5 _ (List.getElem_mem hi)); omega
  · rw [wAt_out (by omega)]; exact Int.le_refl _
theorem checks_hall {L : List Lot} {W : List Want} {us : List Use} (h : checks L W us = true) : mayBe L W = true ∧ Hall L W := by
  unfold checks at h
  rw [Bool.and_eq_true] at h
  obtain ⟨hm, h⟩ := h
  refine ⟨hm, fun S => ?_⟩
  obtain ⟨f1, f2, f3, f4, f5⟩ := mayBe_facts hm
  cases e : chkRun L W (csStart L W) us with
  | none => rw [e] at h; cases h
  | some s =>
    rw [e] at h
    simp only [List.all_eq_true, decide_eq_true_eq] at h
    have ok := chkRun_ok e (csStart_ok hm)
    have ph := chk_phi f4 S e
    have z : needS W s.need S = 0 := sumF_zero fun i hi => by rw [h i hi]; cases S i <;> rfl
    have nn : 0 ≤ leftS L W s.left S := sumF_nn fun l _ => by
      cases nS W S l
      · exact Int.le_refl _
      · exact ok.left _
    omega
end Go.Ab

/- What is proved: filling wants one by one serves all just if Hall's condition holds. No program in sight. No conditions. -/
set_option linter.unusedVariables false
set_option linter.unusedSimpArgs false
namespace Go.Ab
/-- One want stands ahead of another. -/
def bef (W : List Want) (i j : Nat) : Prop := (wAt W i).Day < (wAt W j).Day ∨ ((wAt W i).Day = (wAt W j).Day ∧ i < j)
theorem bef_of {W : List Want} {a b : Fin W.length} (h : before W a b) : bef W a.val b.val := by
  unfold bef before at *
  rw [wAt_get a.2, wAt_get b.2]; exact h
theorem bef_total {W : List Want} {i j : Nat} (h : i ≠ j) : bef W i j ∨ bef W j i := by unfold bef; omega
theorem bef_day {W : List Want} {i j : Nat} (h : i = j ∨ bef W i j) : (wAt W i).Day ≤ (wAt W j).Day := by
  rcases h with rfl | h
  · exact Int.le_refl _
  · unfold bef at h; omega
/-- What is kept while wants are filled; `lim` is the last want so far. -/
structure GInv (L : List Lot) (W : List Want) (lim : Nat → Prop) (cur : Nat → Int) (left : Lf) (out : List Use) : Prop where
  run : chkRun L W (csStart L W) out = some ⟨left, cur⟩
  E : ∀ u ∈ out, ∀ m ∈ L, ∀ m' ∈ L, m'.Id = u.Lot → lotCmp m m' < 0 → serves m (wAt W u.Want.toNat) = true → left m.Id = 0
  R : out.Pairwise fun u v => (∀ m ∈ L, ∀ m' ∈ L, m.Id = v.Lot → m'.Id = u.Lot → lotCmp m m' < 0 → serves m (wAt W u.Want.toNat) = true → False) ∧ (u.Want.toNat = v.Want.toNat ∨ bef W u.Want.toNat v.Want.toNat)
  M : ∀ u ∈ out, lim u.Want.toNat
theorem serves_iff {l : Lot} {w : Want} : serves l w = true ↔ l.Item = w.Item ∧ Window.has ⟨l.From, l.Until⟩ w.Day = true := by
  simp [serves]
/-- One lot more. -/
theorem GInv.step {L : List Lot} {W : List Want} (hn : (L.map Lot.Id).Nodup) (hstart : CSOk (csStart L W)) {p : Nat} (hp : p < W.length) {lim : Nat → Prop} (hlim : lim p) (hlp : ∀ q, lim q → q = p ∨ bef W q p) {cur : Nat → Int} {st : FS5} {pre : List Lot} {l : Lot} (hl : l ∈ L) (hi : l.Item = (wAt W p).Item)
    (hpre : ∀ m ∈ L, m.Item = (wAt W p).Item → lotCmp m l < 0 → m ∈ pre)
    (g : GInv L W lim (fun i => if i = p then st.need else cur i) st.left st.out) (hk : st.need = 0 ∨ ∀ m ∈ pre, serves m (wAt W p) = true → st.left m.Id = 0) :
    GInv L W lim (fun i => if i = p then (stepU (p : Int) (wAt W p) st l).need else cur i) (stepU (p : Int) (wAt W p) st l).left (stepU (p : Int) (wAt W p) st l).out ∧
    ((stepU (p : Int) (wAt W p) st l).need = 0 ∨ ∀ m ∈ pre ++ [l], serves m (wAt W p) = true → (stepU (p : Int) (wAt W p) st l).left m.Id = 0) := by
  have ok := chkRun_ok g.run hstart
  have hneed : 0 ≤ st.need := by have := ok.need p; simpa using this
  have hok : FSOk st := ⟨ok.left, hneed⟩
  have tk := takeOf_nn hok l
  by_cases hc : takeOf st l = 0 ∨ Window.has ⟨l.From, l.Until⟩ (wAt W p).Day = false
  · have e : stepU (p : Int) (wAt W p) st l = st := by unfold stepU; rw [if_pos hc]
    rw [e]
    refine ⟨g, ?_⟩
    by_cases h0 : st.need = 0
    · exact .inl h0
    · right
      intro m hm hs
      rcases List.mem_append.1 hm with hm | hm
      · exact (hk.resolve_left h0) m hm hs
      · rw [List.mem_singleton.1 hm] at hs ⊢
        rcases hc with hc | hc
        · unfold takeOf at hc
          have := ok.left l.Id
          simp only at this
          omega
        · rw [(serves_iff.1 hs).2] at hc; cases hc
  · have e : stepU (p : Int) (wAt W p) st l = ⟨fun n => if n = l.Id then st.left l.Id - takeOf st l else st.left n, st.need - takeOf st l, st.out ++ [⟨p, l.Id, takeOf st l⟩]⟩ := by unfold stepU; rw [if_neg hc]
    have h1 : takeOf st l ≠ 0 := fun h => hc (.inl h)
    have h2 : Window.has ⟨l.From, l.Until⟩ (wAt W p).Day = true := by
      cases h : Window.has ⟨l.From, l.Until⟩ (wAt W p).Day
      · exact absurd (.inr h) hc
      · rfl
    have hsv : serves l (wAt W p) = true := serves_iff.2 ⟨hi, h2⟩
    have hk' := hk.resolve_left (by omega)
    rw [e]
    refine ⟨⟨?_, ?_, ?_, ?_⟩, ?_⟩
    · rw [chkRun_app, g.run]
      simp only [Option.bind_some]
      rw [chkRun_one hn hl rfl ⟨by simp, by simpa using hp, by simp only; omega, by simp only; omega, by simp; omega, by simpa using hsv⟩]
      simp only [chkStep, Int.toNat_natCast]
      congr 2
      · funext n; split
        · rename_i e; subst e; rfl
        · rfl
      · funext i; split <;> rfl
    · intro u hu m hm m' hm' hid hlt hs
      simp only
      split
      · rename_i em
        have hml : m = l := id_inj hn hm hl em
        subst hml
        rcases List.mem_append.1 hu with hu | hu
        · have := g.E u hu m hm m' hm' hid hlt hs; omega
        · rw [List.mem_singleton.1 hu] at hid
          have : m' = m := id_inj hn hm' hl hid
          subst this
          have := lotW.irr m'
          unfold lessC at this
          rw [decide_eq_false_iff_not] at this
          exact absurd hlt this
      · rcases List.mem_append.1 hu with hu | hu
        · exact g.E u hu m hm m' hm' hid hlt hs
        · rw [List.mem_singleton.1 hu] at hid hs
          have : m' = l := id_inj hn hm' hl hid
          subst this
          simp only [Int.toNat_natCast] at hs
          exact hk' m (hpre m hm (serves_iff.1 hs).1 hlt) hs
    · rw [List.pairwise_append]
      refine ⟨g.R, List.pairwise_singleton _ _, fun u hu v hv => ?_⟩
      rw [List.mem_singleton.1 hv]
      refine ⟨fun m hm m' hm' h3 h4 h5 h6 => ?_, ?_⟩
      · have hml : m = l := id_inj hn hm hl h3
        subst hml
        have := g.E u hu m hm m' hm' h4 h5 h6; omega
      · have := hlp _ (g.M u hu)
        simpa using this
    · intro u hu
      rcases List.mem_append.1 hu with hu | hu
      · exact g.M u hu
      · rw [List.mem_singleton.1 hu]; simpa using hlim
    · simp only
      by_cases h0 : st.need - takeOf st l = 0
      · exact .inl h0
      · right
        intro m hm hs
        split
        · unfold takeOf at *; omega
        · rcases List.mem_append.1 hm with hm | hm
          · exact hk' m hm hs
          · rename_i ne; rw [List.mem_singleton.1 hm] at ne; exact absurd rfl ne
theorem rowOf_mem {L : List Lot} {w : Want} {m : Lot} : m ∈ rowOf L w ↔ m ∈ L ∧ m.Item = w.Item := by
  unfold rowOf
  rw [List.mem_filter, (sortLots_perm L).mem_iff]; simp
theorem rowOf_up (L : List Lot) (w : Want) : (rowOf L w).Pairwise fun a b => lessC lotCmp b a = false := (sortLots_up L).filter _
/-- All lots of a row. -/
theorem GInv.row {L : List Lot} {W : List Want} (hn : (L.map Lot.Id).Nodup) (hstart : CSOk (csStart L W)) {p : Nat} (hp : p < W.length) {lim : Nat → Prop} (hlim : lim p) (hlp : ∀ q, lim q → q = p ∨ bef W q p) {cur : Nat → Int} :
    ∀ (post pre : List Lot) {st : FS5}, pre ++ post = rowOf L (wAt W p) → GInv L W lim (fun i => if i = p then st.need else cur i) st.left st.out → (st.need = 0 ∨ ∀ m ∈ pre, serves m (wAt W p) = true → st.left m.Id = 0) →
      GInv L W lim (fun i => if i = p then (post.foldl (stepU (p : Int) (wAt W p)) st).need else cur i) (post.foldl (stepU (p : Int) (wAt W p)) st).left (post.foldl (stepU (p : Int) (wAt W p)) st).out ∧
      ((post.foldl (stepU (p : Int) (wAt W p)) st).need = 0 ∨ ∀ m ∈ rowOf L (wAt W p), serves m (wAt W p) = true → (post.foldl (stepU (p : Int) (wAt W p)) st).left m.Id = 0)
  | [], pre, st, he, g, hk => by rw [List.append_nil] at he; rw [← he]; exact ⟨g, hk⟩
  | l :: post, pre, st, he, g, hk => by
    have hl : l ∈ rowOf L (wAt W p) := by rw [← he]; simp
    obtain ⟨hl1, hl2⟩ := rowOf_mem.1 hl
    have hs := g.step hn hstart hp hlim hlp hl1 hl2 (pre := pre) (fun m hm hi hlt => by
      have hm' : m ∈ rowOf L (wAt W p) := rowOf_mem.2 ⟨hm, hi⟩
      rw [← he] at hm'
      rcases List.mem_append.1 hm' with h | h
      · exact h
      · have hup := rowOf_up L (wAt W p)
        rw [← he, List.pairwise_append] at hup
        have := hup.2.1
        rcases List.mem_cons.1 h with rfl | h
        · have := lotW.irr m
          unfold lessC at this; rw [decide_eq_false_iff_not] at this
          exact absurd hlt this
        · have := (List.pairwise_cons.1 this).1 m h
          unfold lessC at this; rw [decide_eq_false_iff_not] at this
          exact absurd hlt this) hk
    exact GInv.row hn hstart hp hlim hlp post (pre ++ [l]) (by simpa using he) hs.1 hs.2
/-- All wants, or the first that lacks something. -/
structure Stuck (L : List Lot) (W : List Want) (p : Nat) (cur : Nat → Int) (left : Lf) (out : List Use) : Prop where
  inv : GInv L W (fun q => q = p ∨ bef W q p) cur left out
  lt : p < W.length
  pos : 0 < cur p
  none_ : ∀ m ∈ L, serves m (wAt W p) = true → left m.Id = 0
theorem fillAll_inv {L : List Lot} {W : List Want} (hn : (L.map Lot.Id).Nodup) (hstart : CSOk (csStart L W)) :
    ∀ (ps A : List (Fin W.length)) {left : Lf} {out : List Use}, A ++ ps = dayOrder W → GInv L W (fun q => ∃ a ∈ A, a.val = q) (fun i => if ∃ a ∈ A, a.val = i then 0 else (wAt W i).Qty) left out →
      (∀ us lf, fillAll L W ps left out = some (us, lf) → ∃ cur, chkRun L W (csStart L W) us = some ⟨lf, cur⟩ ∧ ∀ i < W.length, cur i = 0) ∧
      (fillAll L W ps left out = none → ∃ p cur lf us, Stuck L W p cur lf us)
  | [], A, left, out, he, g => by
    rw [List.append_nil] at he
    refine ⟨fun us lf h => ?_, fun h => by cases h⟩
    cases h
    refine ⟨_, g.run, fun i hi => ?_⟩
    rw [if_pos]
    exact ⟨⟨i, hi⟩, by rw [he]; exact dayOrder_mem W _, rfl⟩
  | p :: ps, A, left, out, he, g => by
    have hup := dayOrder_up W
    rw [← he, List.pairwise_append] at hup
    have hnp : ¬ ∃ a ∈ A, a.val = p.val := fun ⟨a, ha, e⟩ => by
      have := hup.2.2 a ha p (by simp)
      rw [Fin.ext e] at this
      exact before_irr W _ this
    have hw : wAt W p.val = W[p] := wAt_get p.2
    have hst := GInv.row hn hstart (p := p.val) p.2 (lim := fun q => (∃ a ∈ A, a.val = q) ∨ q = p.val) (.inr rfl) (fun q hq => by
      rcases hq with ⟨a, ha, rfl⟩ | rfl
      · exact .inr (bef_of (hup.2.2 a ha p (by simp)))
      · exact .inl rfl) (cur := fun i => if ∃ a ∈ A, a.val = i then 0 else (wAt W i).Qty) (rowOf L (wAt W p.val)) [] (st := ⟨left, W[p].Qty, out⟩) rfl (by
        have e : (fun i => if i = p.val then W[p].Qty else if ∃ a ∈ A, a.val = i then 0 else (wAt W i).Qty) = fun i => if ∃ a ∈ A, a.val = i then 0 else (wAt W i).Qty := by
          funext i
          by_cases ei : i = p.val
          · subst ei; rw [if_pos rfl, if_neg hnp, hw]
          · rw [if_neg ei]
        simp only at e ⊢
        rw [e]
        exact ⟨g.run, g.E, g.R, fun u hu => .inl (g.M u hu)⟩) (.inr (by simp))
    have efold : (rowOf L (wAt W p.val)).foldl (stepU (p.val : Int) (wAt W p.val)) ⟨left, W[p].Qty, out⟩ = fillOne L (p.val : Int) W[p] left out := by unfold fillOne; rw [hw]
    rw [efold] at hst
    obtain ⟨g2, hk⟩ := hst
    have ok2 := chkRun_ok g2.run hstart
    have hn2 : 0 ≤ (fillOne L (p.val : Int) W[p] left out).need := by have := ok2.need p.val; simpa using this
    by_cases hc : 0 < (fillOne L (p.val : Int) W[p] left out).need
    · refine ⟨fun us lf h => ?_, fun _ => ⟨p.val, fun i => if i = p.val then (fillOne L (p.val : Int) W[p] left out).need else if ∃ a ∈ A, a.val = i then 0 else (wAt W i).Qty, (fillOne L (p.val : Int) W[p] left out).left, (fillOne L (p.val : Int) W[p] left out).out, ⟨?_, p.2, by simpa using hc, fun m hm hs => ?_⟩⟩⟩
      · simp only [fillAll, if_pos hc] at h; cases h
      · exact ⟨g2.run, g2.E, g2.R, fun u hu => by
          rcases g2.M u hu with ⟨a, ha, e⟩ | e
          · right; rw [← e]; exact bef_of (hup.2.2 a ha p (by simp))
          · exact .inl e⟩
      · rcases hk with hk | hk
        · omega
        · exact hk m (rowOf_mem.2 ⟨hm, (serves_iff.1 hs).1⟩) hs
    · have ih := fillAll_inv hn hstart ps (A ++ [p]) (left := (fillOne L (p.val : Int) W[p] left out).left) (out := (fillOne L (p.val : Int) W[p] left out).out) (by simpa using he) (by
        have e : (fun i => if i = p.val then (fillOne L (p.val : Int) W[p] left out).need else if ∃ a ∈ A, a.val = i then 0 else (wAt W i).Qty) = fun i => if ∃ a ∈ A ++ [p], a.val = i then 0 else (wAt W i).Qty := by
          funext i
          by_cases ei : i = p.val
          · subst ei; rw [if_pos rfl, if_pos ⟨p, by simp, rfl⟩]; omega
          · rw [if_neg ei]
            by_cases ea : ∃ a ∈ A, a.val = i
            · obtain ⟨a, ha, e⟩ := ea
              rw [if_pos ⟨a, ha, e⟩, if_pos ⟨a, by simp [ha], e⟩]
            · rw [if_neg ea, if_neg]
              rintro ⟨a, ha, e⟩
              rcases List.mem_append.1 ha with ha | ha
              · exact ea ⟨a, ha, e⟩
              · rw [List.mem_singleton.1 ha] at e; exact ei e.symm
        rw [← e]
        exact ⟨g2.run, g2.E, g2.R, fun u hu => by
          rcases g2.M u hu with ⟨a, ha, e⟩ | e
          · exact ⟨a, by simp [ha], e⟩
          · exact ⟨p, by simp, e.symm⟩⟩)
      simp only [fillAll, if_neg hc]
      exact ih
/-- The wants that stand in the way of one. -/
inductive Way (L : List Lot) (W : List Want) (P : Nat) (out : List Use) : Nat → Prop
  | base : Way L W P out P
  | step {p : Nat} {m : Lot} {u : Use} : Way L W P out p → m ∈ L → serves m (wAt W p) = true → u ∈ out → u.Lot = m.Id → u.Want.toNat = p ∨ bef W u.Want.toNat p → Way L W P out u.Want.toNat
theorem has_of {l : Lot} {d d' : Int} {m : Lot} (h : Window.has ⟨l.From, l.Until⟩ d = true) (hm : Window.has ⟨m.From, m.Until⟩ d' = true) (hd : d ≤ d') (hu : ¬ lotCmp l m < 0) : Window.has ⟨l.From, l.Until⟩ d' = true := by
  simp only [Window.has, Bool.and_eq_true, decide_eq_true_eq] at *
  rw [lotCmp_neg] at hu
  refine ⟨⟨h.1.1, by omega⟩, by omega⟩
section
variable {L : List Lot} {W : List Want} {P : Nat} {cur : Nat → Int} {left : Lf} {out : List Use}
theorem Way.item (hn : (L.map Lot.Id).Nodup) (s : Stuck L W P cur left out) {q : Nat} (h : Way L W P out q) : (wAt W q).Item = (wAt W P).Item ∧ q < W.length := by
  induction h with
  | base => exact ⟨rfl, s.lt⟩
  | step w hm hs hu he hb ih =>
    obtain ⟨l, h1, h2, h3, h4⟩ := chkRun_serves s.inv.run _ hu
    have := id_inj hn h1 hm (by rw [h2, he])
    subst this
    exact ⟨by rw [← ih.1, ← (serves_iff.1 h4).1, (serves_iff.1 hs).1], h3⟩
theorem Way.over (hn : (L.map Lot.Id).Nodup) (s : Stuck L W P cur left out) {q : Nat} (h : Way L W P out q) : ∀ l ∈ L, serves l (wAt W q) = true → left l.Id = 0 := by
  induction h with
  | base => exact s.none_
  | @step p m u w hm hs hu he hb ih =>
    intro l hl hls
    by_cases hc : lotCmp l m < 0
    · exact s.inv.E _ hu l hl m hm he.symm hc hls
    · refine ih l hl ?_
      obtain ⟨l', h1, h2, h3, h4⟩ := chkRun_serves s.inv.run _ hu
      have := id_inj hn h1 hm (by rw [h2, he])
      subst this
      obtain ⟨i1, a1⟩ := serves_iff.1 hls
      obtain ⟨i2, a2⟩ := serves_iff.1 hs
      obtain ⟨i3, a3⟩ := serves_iff.1 h4
      exact serves_iff.2 ⟨by rw [i1, ← i3, i2], has_of a1 a2 (bef_day hb) hc⟩
theorem Way.all (hn : (L.map Lot.Id).Nodup) (s : Stuck L W P cur left out) {q : Nat} (h : Way L W P out q) : ∀ m ∈ L, serves m (wAt W q) = true → ∀ v ∈ out, v.Lot = m.Id → Way L W P out v.Want.toNat := by
  induction h with
  | base => intro m hm hs v hv he; exact .step .base hm hs hv he (s.inv.M v hv)
  | @step p m' u w hm' hs' hu he' hb ih =>
    intro m hm hs v hv he
    have hwq : Way L W P out u.Want.toNat := .step w hm' hs' hu he' hb
    by_cases hx : v.Want.toNat = u.Want.toNat ∨ bef W v.Want.toNat u.Want.toNat
    · exact .step hwq hm hs hv he hx
    · have hvu : v.Want.toNat ≠ u.Want.toNat := fun e => hx (.inl e)
      have hbv : bef W u.Want.toNat v.Want.toNat := by
        rcases bef_total hvu with h | h
        · exact absurd (.inr h) hx
        · exact h
      by_cases hc : lotCmp m m' < 0
      · exfalso
        -- the lot is before the one that was used: it was out, and used nonetheless
        obtain ⟨i, hi, ei⟩ := List.getElem_of_mem hu
        obtain ⟨j, hj, ej⟩ := List.getElem_of_mem hv
        have hp := List.pairwise_iff_getElem.1 s.inv.R
        rcases Nat.lt_trichotomy i j with hij | hij | hij
        · have := (hp i j hi hj hij).1
          rw [ei, ej] at this
          exact this m hm m' hm' he.symm he'.symm hc hs
        · subst hij; rw [ei] at ej; subst ej; exact hvu rfl
        · have := (hp j i hj hi hij).2
          rw [ei, ej] at this
          exact hx this
      · refine ih m hm ?_ v hv he
        obtain ⟨l', h1, h2, h3, h4⟩ := chkRun_serves s.inv.run _ hu
        have := id_inj hn h1 hm' (by rw [h2, he'])
        subst this
        obtain ⟨i1, a1⟩ := serves_iff.1 hs
        obtain ⟨i2, a2⟩ := serves_iff.1 hs'
        obtain ⟨i3, a3⟩ := serves_iff.1 h4
        exact serves_iff.2 ⟨by rw [i1, ← i3, i2], has_of a1 a2 (bef_day hb) hc⟩
open Classical in
/-- Where a want lacks something, some wants of one item want more than there is. -/
theorem stuck_hall (hn : (L.map Lot.Id).Nodup) (hstart : CSOk (csStart L W)) (s : Stuck L W P cur left out) : ∃ S : Nat → Bool, (∀ i, S i = true → i < W.length ∧ (wAt W i).Item = (wAt W P).Item) ∧ leftS L W (csStart L W).left S < needS W (csStart L W).need S := by
  refine ⟨fun i => decide (Way L W P out i), fun i hi => ?_, ?_⟩
  · have := Way.item hn s (of_decide_eq_true hi)
    exact ⟨this.2, this.1⟩
  · have ok := chkRun_ok s.inv.run hstart
    have ph := chk_phi_eq hn (fun i => decide (Way L W P out i)) s.inv.run (fun u hu l hl he hm => by
      unfold nS at hm
      rw [List.any_eq_true] at hm
      obtain ⟨i, _, hi⟩ := hm
      rw [Bool.and_eq_true] at hi
      exact decide_eq_true (Way.all hn s (of_decide_eq_true hi.1) l hl hi.2 u hu he.symm))
    have hz : leftS L W left (fun i => decide (Way L W P out i)) = 0 := sumF_zero fun l hl => by
      cases hm : nS W (fun i => decide (Way L W P out i)) l with
      | false => rfl
      | true =>
        unfold nS at hm
        rw [List.any_eq_true] at hm
        obtain ⟨i, _, hi⟩ := hm
        rw [Bool.and_eq_true] at hi
        exact Way.over hn s (of_decide_eq_true hi.1) l hl hi.2
    have hpos : 0 < needS W cur (fun i => decide (Way L W P out i)) := by
      have h1 := sumF_upd (f := fun i => bif decide (Way L W P out i) then cur i else 0) (g := fun i => if i = P then 0 else bif decide (Way L W P out i) then cur i else 0) (a := P) (d := cur P) (l := List.range W.length) List.nodup_range (List.mem_range.2 s.lt) (fun b _ hb => by simp [hb]) (by simp [Way.base])
      have h2 : 0 ≤ sumF (fun i => if i = P then 0 else bif decide (Way L W P out i) then cur i else 0) (List.range W.length) := sumF_nn fun i _ => by
        have := ok.need i
        simp only at this
        split
        · exact Int.le_refl _
        · cases decide (Way L W P out i)
          · exact Int.le_refl _
          · exact this
      have := s.pos
      simp only [needS]
      omega
    simp only at ph
    omega
end
theorem greedy_inv {L : List Lot} {W : List Want} (h : mayBe L W = true) :
    (∀ us lf, greedy L W = some (us, lf) → ∃ cur, chkRun L W (csStart L W) us = some ⟨lf, cur⟩ ∧ ∀ i < W.length, cur i = 0) ∧
    (greedy L W = none → ∃ p cur lf us, Stuck L W p cur lf us) := by
  obtain ⟨f1, f2, f3, f4, f5⟩ := mayBe_facts h
  have e : greedy L W = fillAll L W (dayOrder W) (left0 L) [] := by unfold greedy; rw [h]; rfl
  rw [e]
  refine fillAll_inv f4 (csStart_ok h) (dayOrder W) [] rfl ⟨?_, by simp, List.Pairwise.nil, by simp⟩
  simp [chkRun, csStart]
theorem greedy_checks {L : List Lot} {W : List Want} {us : List Use} {lf : Lf} (h : greedy L W = some (us, lf)) : mayBe L W = true ∧ checks L W us = true := by
  have hm : mayBe L W = true := by
    unfold greedy at h
    cases hm : mayBe L W with
    | true => rfl
    | false => rw [hm] at h; cases h
  obtain ⟨cur, h1, h2⟩ := (greedy_inv hm).1 us lf h
  refine ⟨hm, ?_⟩
  unfold checks
  rw [hm, h1]
  simp only [Bool.true_and, List.all_eq_true, decide_eq_true_eq]
  exact fun i hi => h2 i (List.mem_range.1 hi)
theorem greedy_why {L : List Lot} {W : List Want} (hm : mayBe L W = true) (h : greedy L W = none) : ∃ S : Nat → Bool, (∃ p < W.length, S p = true ∧ ∀ i, S i = true → i < W.length ∧ (wAt W i).Item = (wAt W p).Item) ∧ leftS L W (csStart L W).left S < needS W (csStart L W).need S := by
  obtain ⟨f1, f2, f3, f4, f5⟩ := mayBe_facts hm
  obtain ⟨p, cur, lf, us, s⟩ := (greedy_inv hm).2 h
  obtain ⟨S, h1, h2⟩ := stuck_hall f4 (csStart_ok hm) s
  by_cases hS : ∃ q, S q = true
  · obtain ⟨q, hq⟩ := hS
    exact ⟨S, ⟨q, (h1 q hq).1, hq, fun i hi => ⟨(h1 i hi).1, by rw [(h1 i hi).2, (h1 q hq).2]⟩⟩, h2⟩
  · exfalso
    have e : needS W (csStart L W).need S = 0 := sumF_zero fun i _ => by
      cases hi : S i with
      | false => rfl
      | true => exact absurd ⟨i, hi⟩ hS
    have : 0 ≤ leftS L W (csStart L W).left S := sumF_nn fun l _ => by
      cases nS W S l
      · exact Int.le_refl _
      · exact (csStart_ok hm).left _
    omega
theorem greedy_hall {L : List Lot} {W : List Want} (hm : mayBe L W = true) : (greedy L W).isSome = true ↔ Hall L W := by
  constructor
  · intro h
    cases e : greedy L W with
    | none => rw [e] at h; cases h
    | some x => exact (checks_hall (greedy_checks (us := x.1) (lf := x.2) e).2).2
  · intro h
    cases e : greedy L W with
    | some x => rfl
    | none =>
      obtain ⟨S, _, hS⟩ := greedy_why hm e
      have := h S
      omega
end Go.Ab

/- What is proved: contract: do uses serve wants? No conditions. -/
set_option linter.unusedVariables false
set_option linter.unusedSimpArgs false
namespace Go.Ab
variable {C : CSem} {N : Nat → Nat}
theorem SlX.nilC {h : AHeap} {es : Nat} {x : AVal} {L R : List (List AVal)} (hs : SlX h es x L R) {i f : Nat} (hi : i < L.length) (K : AVal → Prop) : B.nilCheck (elp es x i f) K = K (elp es x i f) := by
  rcases hs.at_ with ⟨e, _⟩ | ⟨id, g, off, cp, b, hi', h1, _⟩
  · subst e; simp at hi
  · subst h1; simp only [elp]; exact B.nilCheck_ptr ..
def slices_Clone_api_Want_api_Want.Spec (C : CSem) (N : Nat → Nat) : Prop := ∀ (x : AVal) (L : List Want) (R : List (List AVal)) (h : AHeap) (Q : AVal → AHeap → Prop), SlX h 3 x (L.map Want.cs) R → L.length ≤ 100000000 →
  (∀ x' h', Owns h h' [.sl 3 x' (L.map Want.cs) []] → Q x' h') → C (N 238) [x] h Q
theorem slices_Clone_api_Want_api_Want.spec (i : slices_Clone_api_Want_api_Want.Imp C N) : slices_Clone_api_Want_api_Want.Spec C N := by
  intro x L R h Q hx hlen hq
  exact i _ _ _ (clone_spec wantS hx hlen fun x' h' ho => dn_same (hq x' h' ho))
def flow_Check_1.Spec (C : CSem) (N : Nat → Nat) : Prop := ∀ (w : Want) (h : AHeap) (Q : AVal → AHeap → Prop), Q (.bool (decide (0 < w.Qty))) h → C (N 236) [.agg w.cs] h Q
theorem flow_Check_1.spec (i : flow_Check_1.Imp C N) : flow_Check_1.Spec C N := by
  intro w h Q hq
  apply i
  simp +contextual -dsimp
  exact dn_same hq
/-- Wants by what they still need. -/
def wantsAt (W : List Want) (need : Nat → Int) : List Want := (List.range W.length).map fun i => { wAt W i with Qty := need i }
@[simp] theorem wantsAt_len (W : List Want) (need : Nat → Int) : (wantsAt W need).length = W.length := by simp [wantsAt]
theorem wantsAt_get {W : List Want} {need : Nat → Int} {i : Nat} (h : i < W.length) : (wantsAt W need)[i]? = some { wAt W i with Qty := need i } := by simp [wantsAt, h]
theorem wantsAt_start (L : List Lot) (W : List Want) : wantsAt W (csStart L W).need = W := by
  apply List.ext_getElem?
  intro i
  by_cases hi : i < W.length
  · rw [wantsAt_get hi, List.getElem?_eq_getElem hi]
    simp only [csStart, wAt_get hi]
  · rw [List.getElem?_eq_none (by simp; omega), List.getElem?_eq_none (by omega)]
theorem wantsAt_set {W : List Want} {need : Nat → Int} {i : Nat} (h : i < W.length) (n : Int) : (wantsAt W need).set i { wAt W i with Qty := n } = wantsAt W fun j => if j = i then n else need j := by
  apply List.ext_getElem?
  intro j
  rw [List.getElem?_set]
  by_cases hj : i = j
  · subst hj; rw [if_pos rfl, if_pos (by simpa using h), wantsAt_get h]; simp
  · rw [if_neg hj]
    by_cases hl : j < W.length
    · rw [wantsAt_get hl, wantsAt_get hl]; simp [Ne.symm hj]
    · rw [List.getElem?_eq_none (by simp; omega), List.getElem?_eq_none (by simp; omega)]
abbrev vLot (l : Lot) : AVal := .agg l.cs
theorem useWant (u : Use) : V.field1 0 (.agg u.cs) = some (.int .i64 u.Want) := by simp
theorem useLot (u : Use) : V.field1 1 (.agg u.cs) = some (.int .i64 u.Lot) := by simp
theorem useQty (u : Use) : V.field1 2 (.agg u.cs) = some (.int .i64 u.Qty) := by simp
theorem setUse (u : Use) : V.setN 0 3 (.agg u.cs) (.agg [.int .i64 0, .int .i64 0, .int .i64 0]) = some (.agg u.cs) := by simp
theorem lotById_succ {L : List Lot} {k : Nat} (hk : k < L.length) (hn : (L.map Lot.Id).Nodup) (n : Int) : lotById (L.take (k + 1)) n = if n = L[k].Id then some L[k] else lotById (L.take k) n := by
  unfold lotById
  rw [take_one hk, List.find?_append]
  by_cases e : n = L[k].Id
  · rw [if_pos e]
    have : (L.take k).find? (fun l => decide (l.Id = n)) = none := by
      rw [List.find?_eq_none]
      intro l hl
      simp only [decide_eq_true_eq]
      intro e2
      obtain ⟨j, hj, rfl⟩ := List.getElem_of_mem hl
      rw [List.length_take] at hj
      rw [List.getElem_take] at e2
      have := nodup_inj hn (i := j) (j := k) (by simp; omega) (by simpa using hk) (by simp [e2, e])
      omega
    rw [this]; simp [e]
  · rw [if_neg e]
    cases (L.take k).find? (fun l => decide (l.Id = n)) with
    | some l => rfl
    | none => simp [Ne.symm e]
def flow_Check.Spec (C : CSem) (N : Nat → Nat) : Prop := ∀ (x y z : AVal) (L : List Lot) (W : List Want) (U : List Use) (R S T : List (List AVal)) (h : AHeap) (Q : AVal → AHeap → Prop), SlX h 6 x (L.map Lot.cs) R → SlX h 3 y (W.map Want.cs) S → SlX h 3 z (U.map Use.cs) T →
  L.length < 4611686018427387904 → W.length < 4611686018427387904 → U.length < 4611686018427387904 → Q (.bool (checks L W U)) h → C (N 225) [x, y, z] h Q
theorem checks_none {L : List Lot} {W : List Want} {U : List Use} {s : CS} {k : Nat} (hk : k < U.length) (h : chkRun L W (csStart L W) (U.take k) = some s) (hno : ∀ l, lotById L U[k].Lot = some l → ¬ ChkF W s U[k] l) : checks L W U = false := by
  unfold checks
  have e : U = U.take k ++ U[k] :: U.drop (k + 1) := by rw [← List.drop_eq_getElem_cons hk, List.take_append_drop]
  have : chkRun L W (csStart L W) U = none := by
    rw [e, chkRun_app, h]
    simp only [Option.bind_some, chkRun]
    cases hl : lotById L U[k].Lot with
    | none => rfl
    | some l =>
      simp only
      have := hno l hl
      rw [← chkOk_iff] at this
      rw [Bool.not_eq_true] at this
      rw [this]; rfl
  rw [this]
  simp
theorem checks_next {L : List Lot} {W : List Want} {U : List Use} {s : CS} {k : Nat} (hk : k < U.length) (h : chkRun L W (csStart L W) (U.take k) = some s) {l : Lot} (hl : lotById L U[k].Lot = some l) (hc : ChkF W s U[k] l) : chkRun L W (csStart L W) (U.take (k + 1)) = some (chkStep s U[k]) := by
  rw [take_one hk, chkRun_app, h]
  simp only [Option.bind_some, chkRun, hl]
  rw [chkOk_iff.2 hc]; rfl
section
variable {h0 h : AHeap} {id : Nat} {L : List Lot} {W : List Want} {U : List Use} {Q : AVal → AHeap → Prop} {x y z cl : AVal} {T : List (List AVal)}
structure CSm (s : CS) : Prop where
  left : ∀ n, s.left n ≤ 1073741824
  need : ∀ n, s.need n ≤ 1125899906842624
theorem chkStep_sm {s : CS} (h : CSm s) {u : Use} (hq : 1 ≤ u.Qty) : CSm (chkStep s u) := by
  refine ⟨fun n => ?_, fun i => ?_⟩ <;> unfold chkStep <;> simp only <;> split
  · have := h.left n; omega
  · exact h.left n
  · have := h.need i; omega
  · exact h.need i
theorem check_uses (s1 : window_Has.Spec C N) (s2 : slices_ContainsFunc_api_Want_api_Want.Spec C N) (s3 : flow_Check_1.Spec C N) (hm : mayBe L W = true) (hz : SlX h0 3 z (U.map Use.cs) T) (hU : U.length < 4611686018427387904) {ps : Ents Int Lot} {c : Nat}
    (ho : Owns h0 h [.blk id (mapBlk (encM kI vLot ps) c), .sl 3 cl (W.map Want.cs) []]) (hp : ∀ n, getP ps n = lotById L n)
    (hq : ∀ h', h0.le h' → Q (.bool (checks L W U)) h') : LoopR (flow_Check.l2 C N Q (.mp id) cl z (.int .i64 (U.length : Int))) [.int .i64 0] h := by
  obtain ⟨f1, f2, f3, f4, f5⟩ := mayBe_facts hm
  have hs0 := csStart_ok hm
  have hsm0 : CSm (csStart L W) := ⟨(left0_bnd f3).le, fun i => by
    simp only [csStart]
    by_cases hi : i < W.length
    · rw [wAt_get hi]; have := wantRight_facts (f5 _ (List.getElem_mem hi)); omega
    · rw [wAt_out (by omega)]; simp⟩
  refine LoopR.intro (fun t vs hh => ∃ (k : Nat) (ps : Ents Int Lot) (c : Nat) (s : CS), k + t = U.length ∧ vs = [.int .i64 (k : Int)] ∧ Owns h0 hh [.blk id (mapBlk (encM kI vLot ps) c), .sl 3 cl ((wantsAt W s.need).map Want.cs) []] ∧
    (∀ n, getP ps n = (lotById L n).map fun l => { l with Qty := s.left l.Id }) ∧ chkRun L W (csStart L W) (U.take k) = some s ∧ CSOk s ∧ CSm s) U.length ?_ ⟨0, ps, c, csStart L W, by omega, rfl, by rw [wantsAt_start]; exact ho, fun n => ?_, rfl, hs0, hsm0⟩
  · rintro Y t vs hh ⟨k, ps, c, s, hkt, rfl, o, hg, hr, hok, hsm⟩ hY
    simp -dsimp only [flow_Check.l2, flow_Check.k1, lssN, B.pv_some]
    refine B.cond_bool (fun hb => ?_) (fun hb => ?_) <;> simp only [decide_eq_true_eq, decide_eq_false_iff_not] at hb
    · have hzz := hz.mono o.le
      have hgu : (U.map Use.cs)[k]? = some (U[k]).cs := by rw [List.getElem?_map, List.getElem?_eq_getElem hb]; rfl
      have hidx : V.idxS 3 z (.int .i64 (k : Int)) = some (elp 3 z k 0) := hzz.idxN (by simpa using hb)
      have hcl := o.slAt 1 rfl
      have hle := o.le
      have ecl := hcl.lenSl
      rw [List.length_map, wantsAt_len] at ecl
      have hlk : A.lkp hh (some .i) (some (.agg [.int .i64 0, .str [], .int .i64 0, .int .i64 0, .int .i64 0, .bool false])) true (.mp id) (.int .i64 U[k].Lot) = some (.tup [vLot ((getP ps U[k].Lot).getD ⟨0, [], 0, 0, 0, false⟩), .bool (getP ps U[k].Lot).isSome]) :=
        o.lkp2 0 rfl keyI (⟨0, [], 0, 0, 0, false⟩ : Lot) U[k].Lot
      have no : (∀ l, lotById L U[k].Lot = some l → ¬ ChkF W s U[k] l) → Q (.bool false) hh := fun hno => by
        have := hq hh hle
        rw [checks_none hb hr hno] at this; exact this
      cases hl : lotById L U[k].Lot with
      | none =>
        rw [hg, hl] at hlk
        simp -dsimp only [hidx, B.ldn_eq, hzz.elem hgu, setUse, useLot, hlk, V.ext_tup, List.getElem?_cons_zero, List.getElem?_cons_succ, setLot6, V.un_not, B.al_agg, B.pv_some]
        simp -dsimp
        exact no fun l h => by rw [hl] at h; cases h
      | some l =>
        obtain ⟨hl1, hl2⟩ := lotById_some hl
        obtain ⟨l', hl'⟩ : ∃ l' : Lot, l' = { l with Qty := s.left l.Id } := ⟨_, rfl⟩
        have ei : l'.Item = l.Item := by rw [hl']
        have ef : l'.From = l.From := by rw [hl']
        have eu : l'.Until = l.Until := by rw [hl']
        have eq : l'.Qty = s.left l.Id := by rw [hl']
        rw [hg, hl] at hlk
        simp only [Option.map_some, Option.getD_some, Option.isSome_some, ← hl'] at hlk
        simp -dsimp only [hidx, B.ldn_eq, hzz.elem hgu, setUse, useLot, hlk, V.ext_tup, List.getElem?_cons_zero, List.getElem?_cons_succ, setLot6, V.un_not, B.al_agg, B.pv_some]
        simp +contextual -dsimp [ecl]
        refine B.cond_bool (fun hc => ?_) (fun hc => ?_)
        · refine no fun l2 h2 hf => ?_
          rw [hl] at h2; cases h2
          have := hf.w0; have := hf.w1; have := hf.q; have := hf.ql
          simp only [Bool.or_eq_true, decide_eq_true_eq] at hc
          omega
        simp only [Bool.or_eq_false_iff, decide_eq_false_iff_not] at hc
        obtain ⟨n, hn⟩ : ∃ n : Nat, U[k].Want = (n : Int) := ⟨U[k].Want.toNat, by omega⟩
        have hnW : n < W.length := by omega
        have hwl : n < ((wantsAt W s.need).map Want.cs).length := by simpa using hnW
        have hgn : ((wantsAt W s.need).map Want.cs)[n]? = some (Want.cs { wAt W n with Qty := s.need n }) := by rw [List.getElem?_map, wantsAt_get hnW]; rfl
        have ixn : V.idxS 3 cl (.int .i64 (n : Int)) = some (elp 3 cl n 0) := hcl.idxN hwl
        have nc : ∀ K, (B.nilCheck (elp 3 cl n 0) K : Prop) = K (elp 3 cl n 0) := fun K => hcl.nilC hwl K
        have a0 : V.fieldAddr 0 (elp 3 cl n 0) = some (elp 3 cl n 0) := by have := hcl.fieldA hwl 0 0; simpa using this
        have a1 : V.fieldAddr 1 (elp 3 cl n 0) = some (elp 3 cl n 1) := by have := hcl.fieldA hwl 0 1; simpa using this
        have a2 : V.fieldAddr 2 (elp 3 cl n 0) = some (elp 3 cl n 2) := by have := hcl.fieldA hwl 0 2; simpa using this
        have d0 : A.ldv hh (elp 3 cl n 0) = some (.str (wAt W n).Item) := by have := hcl.ldv (f := 0) hgn (by omega); simpa using this
        have d1 : A.ldv hh (elp 3 cl n 1) = some (.int .i64 (wAt W n).Day) := by have := hcl.ldv (f := 1) hgn (by omega); simpa using this
        have d2 : A.ldv hh (elp 3 cl n 2) = some (.int .i64 (s.need n)) := by have := hcl.ldv (f := 2) hgn (by omega); simpa using this
        have tn : U[k].Want.toNat = n := by omega
        simp +contextual -dsimp [hn, ixn, nc, a0, a1, a2, d0, d1, d2]
        refine B.gdb_call (fun _ _ hq => s1 _ _ _ _ _ hq) ?_
        simp +contextual -dsimp
        refine B.cond_bool (fun hd => ?_) (fun hd => ?_)
        · refine no fun l2 h2 hf => ?_
          rw [hl] at h2; cases h2
          obtain ⟨g1, g2⟩ := serves_iff.1 hf.sv
          have g3 := hf.qn
          rw [tn] at g1 g2 g3
          simp [ei, ef, eu, g1, g2] at hd
          omega
        have hF : ChkF W s U[k] l := by
          simp at hd
          refine ⟨by omega, by omega, by omega, by omega, by rw [tn]; omega, ?_⟩
          rw [tn]
          exact serves_iff.2 ⟨by rw [← ei]; exact hd.1.2, by rw [← ef, ← eu]; exact hd.2⟩
        have q1 := hF.q
        have q2 := hF.ql
        have q3 := hF.qn
        rw [tn] at q3
        have k1 := hsm.left l.Id
        have k2 := hsm.need n
        simp -dsimp only [lotQty, useQty, V.bin_sub, setLotQty, useLot, getLot6, B.al_agg, B.pv_some, eq]
        rw [wrap_i64 (n := s.left l.Id - U[k].Qty) (by omega) (by omega)]
        refine o.mset 0 rfl keyI U[k].Lot { l' with Qty := s.left l.Id - U[k].Qty } fun h2 o2 _ _ => ?_
        have hcl2 := o2.slAt 1 rfl
        have d2' : A.ldv h2 (elp 3 cl n 2) = some (.int .i64 (s.need n)) := by have := hcl2.ldv (f := 2) hgn (by omega); simpa using this
        simp -dsimp only [nc, a2, B.ld_eq, d2', useQty, V.bin_sub, B.al_agg, B.pv_some]
        rw [wrap_i64 (n := s.need n - U[k].Qty) (by omega) (by omega)]
        refine o2.st 1 rfl (i := n) (f := 2) hgn (by omega) rfl fun h3 o3 _ => ?_
        simp -dsimp only [add1 (show k < 4611686018427387904 by omega), B.pv_some]
        have ecs : (Want.cs { wAt W n with Qty := s.need n }).set 2 (.int .i64 (s.need n - U[k].Qty)) = Want.cs { wAt W n with Qty := s.need n - U[k].Qty } := rfl
        have ew : ((wantsAt W s.need).map Want.cs).set n (Want.cs { wAt W n with Qty := s.need n - U[k].Qty }) = (wantsAt W (chkStep s U[k]).need).map Want.cs := by
          rw [← List.map_set, wantsAt_set hnW]
          simp only [chkStep, tn]
          congr 2
          funext j
          split
          · rename_i e; subst e; rfl
          · rfl
        simp only [List.set_cons_zero, List.set_cons_succ, ecs, ew] at o3
        refine hY (U.length - (k + 1)) _ _ (by omega) ⟨k + 1, _, _, chkStep s U[k], by omega, rfl, o3, fun m => ?_, checks_next hb hr hl hF, chkStep_ok hok hF hl2, chkStep_sm hsm q1⟩
        rw [getP_put, hg]
        by_cases em : m = U[k].Lot
        · subst em
          rw [if_pos rfl, hl]
          simp [chkStep, hl', hl2]
        · rw [if_neg em]
          cases hlm : lotById L m with
          | none => rfl
          | some lm =>
            have := (lotById_some hlm).2
            simp [chkStep, this, em]
    · rw [List.take_of_length_le (by omega)] at hr
      refine s2 _ _ (fun w => decide (0 < w.Qty)) _ _ _ _ (o.slAt 1 rfl) (by simp; omega) (fun w h' K hh' hk => ?_) ?_
      · simp -dsimp
        exact s3 _ _ _ hk
      simp -dsimp only [V.un_not, B.pv_some]
      have e : (!(wantsAt W s.need).any fun w => decide (0 < w.Qty)) = checks L W U := by
        unfold checks
        rw [hm, hr]
        simp only [Bool.true_and]
        rw [Bool.eq_iff_iff]
        simp only [wantsAt, Bool.not_eq_true', List.any_map, List.any_eq_false, List.all_eq_true, Function.comp, decide_eq_true_eq]
        refine forall_congr' fun i => forall_congr' fun _ => ?_
        have := hok.need i
        omega
      rw [e]
      exact hq _ o.le
  · rw [hp]
    cases hl : lotById L n with
    | none => rfl
    | some l =>
      obtain ⟨h1, h2⟩ := lotById_some hl
      simp only [Option.map_some, csStart, left0_of f4 h1]
end
theorem flow_Check.spec (i : flow_Check.Imp C N) (s1 : flow_together.Spec C N) (s2 : slices_Clone_api_Want_api_Want.Spec C N) (s3 : window_Has.Spec C N) (s4 : slices_ContainsFunc_api_Want_api_Want.Spec C N) (s5 : flow_Check_1.Spec C N) : flow_Check.Spec C N := by
  intro x y z L W U R S T h Q hx hy hz hlen hlen2 hlen3 hq
  apply i
  simp -dsimp only [flow_Check.cps, flow_Check.k5]
  refine s1 _ _ _ _ _ _ _ _ hx hy hlen hlen2 ?_
  simp -dsimp only [V.un_not, B.pv_some]
  cases hm : mayBe L W with
  | false =>
    simp -dsimp only [Bool.not_false, B.cond_true]
    have e : checks L W U = false := by unfold checks; rw [hm]; rfl
    rw [e] at hq
    exact dn_same hq
  | true =>
    simp -dsimp only [Bool.not_true, B.cond_false]
    obtain ⟨f1, f2, f3, f4, f5⟩ := mayBe_facts hm
    have e1 := hx.lenSl
    have e3 := hz.lenSl
    rw [List.length_map] at e1 e3
    refine (Owns.start h).newMap (K := Int) (T := Lot) kI vLot fun id h1 _ o1 _ => ?_
    simp only [List.nil_append] at o1
    simp -dsimp only [e1, B.pv_some]
    refine LoopR.intro (fun t vs hh => ∃ (k : Nat) (ps : Ents Int Lot) (c : Nat), k + t = L.length ∧ vs = [.int .i64 (k : Int)] ∧ Owns h hh [.blk id (mapBlk (encM kI vLot ps) c)] ∧ ∀ n, getP ps n = lotById (L.take k) n) L.length ?_ ⟨0, [], 0, by omega, rfl, o1, fun n => by simp [getP, lotById]⟩
    rintro Y t vs hh ⟨k, ps, c, hkt, rfl, o, hp⟩ hY
    simp -dsimp only [flow_Check.l4, flow_Check.k3, lssN, B.pv_some]
    refine B.cond_bool (fun hb => ?_) (fun hb => ?_) <;> simp only [decide_eq_true_eq, decide_eq_false_iff_not] at hb
    · have hxx := hx.mono o.le
      have hg : (L.map Lot.cs)[k]? = some (L[k]).cs := by rw [List.getElem?_map, List.getElem?_eq_getElem hb]; rfl
      have hidx : V.idxS 6 x (.int .i64 (k : Int)) = some (elp 6 x k 0) := hxx.idxN (by simpa using hb)
      simp -dsimp only [hidx, B.ldn_eq, hxx.elem hg, setLot6, lotId, getLot6, B.al_agg, B.pv_some]
      refine o.mset 0 rfl keyI L[k].Id L[k] fun h2 o2 _ _ => ?_
      simp -dsimp only [add1 (show k < 4611686018427387904 by omega), B.pv_some]
      refine hY (L.length - (k + 1)) _ _ (by omega) ⟨k + 1, _, _, by omega, rfl, o2, fun n => ?_⟩
      rw [getP_put, hp, lotById_succ hb f4]
    · rw [List.take_of_length_le (by omega)] at hp
      refine s2 _ _ _ _ _ (hy.mono o.le) (by omega) fun cl h2 o2 => ?_
      have o3 := o.join o2
      simp -dsimp only [e3, B.pv_some]
      exact check_uses s3 s4 s5 hm hz hlen3 o3 hp fun h' hle => dn_le hle hq
end Go.Ab

/- What is proved: plain facts on lots: what is over, how much can be used. No program in sight. No conditions. -/
set_option linter.unusedVariables false
set_option linter.unusedSimpArgs false
namespace Go.Ab
end Go.Ab

/- What is proved: contracts of the fourth chapter's statements' functions: what is over. No conditions. -/
set_option linter.unusedVariables false
set_option linter.unusedSimpArgs false
namespace Go.Ab
variable {C : CSem} {N : Nat → Nat}
def kit_Pick.Spec (C : CSem) (N : Nat → Nat) : Prop := ∀ (a m : Int) (h : AHeap) (Q : AVal → AHeap → Prop), 0 < m → m ≤ 4611686018427387904 → (∀ n : Int, 0 ≤ n → n < m → Q (.int .i64 n) h) → C (N 155) [.int .i64 a, .int .i64 m] h Q
theorem kit_Pick.spec (i : kit_Pick.Imp C N) : kit_Pick.Spec C N := by
  intro a m h Q h1 h2 hq
  apply i
  have k1 := Int.tmod_lt_of_pos a h1
  have k2 := Int.lt_tmod_of_pos a h1
  have hm : m ≠ 0 := by omega
  simp -dsimp [hm, show ¬ m < 1 by omega]
  refine B.cond_bool (fun hb => ?_) (fun hb => ?_) <;> simp -dsimp at hb ⊢
  · rw [wrap_i64 (by omega) (by omega)]
    exact dn_same (hq _ (by omega) (by omega))
  · exact dn_same (hq _ hb k1)
end Go.Ab

/- What is proved: contracts of what the statements share about answers; and of the bag, in which all lists are held that must lie apart. No conditions. -/
set_option linter.unusedVariables false
set_option linter.unusedSimpArgs false
set_option maxRecDepth 100000
namespace Go.Ab
variable {C : CSem} {N : Nat → Nat}

/-! Answers. -/
structure TellLent (h : AHeap) (t : TellP) (x y : AVal) : Prop where
  lots : SlX h 6 x (t.Lots.map Lot.cs) marksLot
  uses : SlX h 3 y (t.Uses.map Use.cs) marksUse
theorem TellLent.at_ {h : AHeap} {t : TellP} {x y : AVal} (a : TellLent h t x y) : TellAt h t x y := ⟨⟨_, a.lots⟩, ⟨_, a.uses⟩⟩
theorem TellLent.mono {h H : AHeap} {t : TellP} {x y : AVal} (a : TellLent h t x y) (hle : h.le H) : TellLent H t x y := ⟨a.lots.mono hle, a.uses.mono hle⟩
end Go.Ab

/- What is proved: contracts of the bag, in which all lists are held that must lie apart. No conditions. -/
set_option linter.unusedVariables false
set_option linter.unusedSimpArgs false
set_option maxRecDepth 100000
namespace Go.Ab
variable {C : CSem} {N : Nat → Nat}

abbrev sing (v : AVal) : List AVal := [v]
/-- A bag at id: B: what it holds, by kinds. -/
def BagAt (h hh : AHeap) (id : Nat) (B : Nat → List AVal) : Prop := ∃ xs : Nat → AVal, Owns h hh (Objs 1 23 xs (fun i => (B i).map sing) (fun _ => []) ++ [.box (.ptr id 0 0) (fill 23 xs)])
theorem Owns.nilObjs {h0 h : AHeap} {l : List Ob} (ho : Owns h0 h l) (es n : Nat) : Owns h0 h (Objs es n (fun _ => .nils) (fun _ => []) (fun _ => []) ++ l) := by
  have mem : ∀ o ∈ Objs es n (fun _ => AVal.nils) (fun _ => []) (fun _ => []), o = .sl es .nils [] [] := fun o hm => by
    obtain ⟨j, _, rfl⟩ := List.mem_map.1 hm; rfl
  refine ⟨ho.le, fun o hm => ?_, fun o hm => ?_, List.pairwise_append.2 ⟨?_, ho.apart, fun a ha b _ id hf => by rw [mem a ha] at hf; cases hf⟩⟩
  · rcases List.mem_append.1 hm with hm | hm
    · rw [mem o hm]; exact SlX.nils h es
    · exact ho.is o hm
  · rcases List.mem_append.1 hm with hm | hm
    · intro id hf; rw [mem o hm] at hf; cases hf
    · exact ho.own o hm
  · rw [List.pairwise_iff_forall_sublist]
    intro a b hs id hf
    rw [mem a (hs.subset (by simp))] at hf; cases hf
theorem BagAt.start {h : AHeap} {id : Nat} (hid : h id = none) : BagAt h (upd h id (blkOf (fill 23 fun _ => .nils))) id fun _ => [] := by
  refine ⟨fun _ => .nils, ?_⟩
  have := ((Owns.start h).newBox hid (fill 23 fun _ => .nils)).nilObjs 1 23
  simpa using this
def bagFull (i : Nat) : Bool := [false, false, false, true, true, true, true, true, true, true, false, true, false, true, false, false, false, false, false, false, false, false, false].getD i false
/-- A bag that is there at first. -/
structure BagIs (h0 : AHeap) (id : Nat) (B : Nat → List AVal) (D : Nat → Nat → List (List AVal)) (xs : Nat → AVal) : Prop where
  box : h0 id = some (blkOf (fill 23 xs))
  is : ∀ i, i < 23 → SlX h0 1 (xs i) ((B i).map sing) []
  none : ∀ i, i < 23 → bagFull i = false → B i = []
  n_le : ∀ i, i < 23 → (B i).length ≤ 100000000
  len_le : ∀ i, i < 23 → ∀ j, j < (B i).length → (D i j).length ≤ 100000000
section
variable {h0 h : AHeap} {id : Nat} {B : Nat → List AVal} {D R : Nat → Nat → List (List AVal)} {xs : Nat → AVal} {Q : AVal → AHeap → Prop}
theorem BagIs.ld (hb : BagIs h0 id B D xs) (hle : h0.le h) {i : Nat} (hi : i < 23) : A.ldv h (.ptr id 0 i) = some (xs i) := by
  rw [ldv_at (hle _ _ hb.box), fill_get _ hi]
end
end Go.Ab

/- What is proved: contracts of the statements' question whether lists lie apart. No conditions. -/
set_option linter.unusedVariables false
set_option linter.unusedSimpArgs false
set_option maxRecDepth 100000
namespace Go.Ab
variable {C : CSem} {N : Nat → Nat}

theorem BagAt.le {h hh : AHeap} {id : Nat} {B : Nat → List AVal} (hb : BagAt h hh id B) : h.le hh := by obtain ⟨_, ho⟩ := hb; exact ho.le
@[simp] theorem Objs_zero {es : Nat} {xs : Nat → AVal} {D R : Nat → List (List AVal)} : Objs es 0 xs D R = [] := rfl

abbrev TellC := TellP × AVal × AVal
@[simp] def TellC.cs (a : TellC) : List AVal := a.1.cs a.2.1 a.2.2
end Go.Ab

/- What is proved: lists of lots that lie apart. No conditions. -/
set_option linter.unusedVariables false
set_option linter.unusedSimpArgs false
namespace Go.Ab
variable {C : CSem} {N : Nat → Nat}
end Go.Ab

/- What is proved: contracts of answers' bytes, the program's and the document's. No conditions. -/
set_option linter.unusedVariables false
set_option linter.unusedSimpArgs false
namespace Go.Ab
variable {C : CSem} {N : Nat → Nat}

end Go.Ab

/- What is proved: contracts of what reads answers' bytes, the program's and the document's. No conditions. -/
set_option linter.unusedVariables false
set_option linter.unusedSimpArgs false
namespace Go.Ab
variable {C : CSem} {N : Nat → Nat}

structure Rdr where
  at_ : Nat
  bad : Bool
def beVal (l : List UInt8) : Nat := l.foldl (fun n c => 256 * n + c.toNat) 0
def rNum (b : List UInt8) (k : Nat) (r : Rdr) : Int × Rdr := if r.bad = true ∨ b.length - r.at_ < k then (0, ⟨r.at_, true⟩) else (IntKind.i64.wrap (beVal ((b.drop r.at_).take k)), ⟨r.at_ + k, false⟩)
def rCode (b : List UInt8) (r : Rdr) : List UInt8 × Rdr := if r.bad then ([], r) else ((codeGet (b.drop r.at_)).1, ⟨r.at_ + (codeGet (b.drop r.at_)).2.1, !(codeGet (b.drop r.at_)).2.2⟩)
theorem rNum_le {b : List UInt8} {k : Nat} {r : Rdr} (h : r.at_ ≤ b.length) : (rNum b k r).2.at_ ≤ b.length := by
  unfold rNum; split
  · exact h
  · rename_i hh; simp only [not_or] at hh; simp only; omega
theorem codeGet_le : ∀ b : List UInt8, (codeGet b).2.1 ≤ b.length
  | [] => by simp [codeGet]
  | c :: r => by rw [codeGet_cons]; split <;> simp; rename_i hh; simp only [not_or] at hh; omega
theorem rCode_le {b : List UInt8} {r : Rdr} (h : r.at_ ≤ b.length) : (rCode b r).2.at_ ≤ b.length := by
  unfold rCode; split
  · exact h
  · have := codeGet_le (b.drop r.at_); simp at this ⊢; omega

/-- A reader: p, over the bytes x. -/
abbrev RdAt (h0 h : AHeap) (p x : AVal) (r : Rdr) : Prop := Owns h0 h [.box p [x, .int .i64 (r.at_ : Int), .bool r.bad]]

def ref13_Reader_Number.Spec (C : CSem) (N : Nat → Nat) : Prop := ∀ (h0 h : AHeap) (p x : AVal) (b : List UInt8) (R : List (List AVal)) (r : Rdr) (k : Nat) (Q : AVal → AHeap → Prop), SlX h0 1 x (b.map bc) R → b.length < 4611686018427387904 → r.at_ ≤ b.length → k ≤ 8 → RdAt h0 h p x r →
  (∀ h', RdAt h0 h' p x (rNum b k r).2 → Q (.int .i64 (rNum b k r).1) h') → C (N 71) [p, .int .i64 (k : Int)] h Q
def rLot (b : List UInt8) (r : Rdr) : Lot × Rdr :=
  let a := rNum b 8 r
  let c := rCode b a.2
  let f := rNum b 2 c.2
  let u := rNum b 2 f.2
  let q := rNum b 8 u.2
  let e := rNum b 1 q.2
  (⟨a.1, c.1, f.1, u.1, q.1, decide (e.1 = 1)⟩, ⟨e.2.at_, e.2.bad || decide (1 < e.1)⟩)
theorem rLot_le {b : List UInt8} {r : Rdr} (h : r.at_ ≤ b.length) : (rLot b r).2.at_ ≤ b.length :=
  rNum_le (rNum_le (rNum_le (rNum_le (rCode_le (rNum_le h)))))
def rUse (b : List UInt8) (r : Rdr) : Use × Rdr :=
  let a := rNum b 8 r
  let c := rNum b 8 a.2
  let f := rNum b 8 c.2
  (⟨a.1, c.1, f.1⟩, f.2)
theorem rUse_le {b : List UInt8} {r : Rdr} (h : r.at_ ≤ b.length) : (rUse b r).2.at_ ≤ b.length := rNum_le (rNum_le (rNum_le h))

def ref14_lot.Spec (C : CSem) (N : Nat → Nat) : Prop := ∀ (h0 h : AHeap) (p x : AVal) (b : List UInt8) (R : List (List AVal)) (r : Rdr) (Q : AVal → AHeap → Prop), SlX h0 1 x (b.map bc) R → b.length < 4611686018427387904 → r.at_ ≤ b.length → RdAt h0 h p x r →
  (∀ h', RdAt h0 h' p x (rLot b r).2 → Q (.agg (rLot b r).1.cs) h') → C (N 72) [p] h Q
end Go.Ab

/- What is proved: contracts of getting answers out of bytes, the program's and the document's. No conditions. -/
set_option linter.unusedVariables false
set_option linter.unusedSimpArgs false
namespace Go.Ab
variable {C : CSem} {N : Nat → Nat}

def rList {T : Type} (one : Rdr → T × Rdr) : Nat → Rdr → List T × Rdr
  | 0, r => ([], r)
  | n + 1, r => if r.bad then ([], r) else ((one r).1 :: (rList one n (one r).2).1, (rList one n (one r).2).2)
structure ReadsAt (h0 : AHeap) (x : AVal) (b : List UInt8) : Prop where
  is : ∃ R, SlX h0 1 x (b.map bc) R
  lt : b.length < 4611686018427387904
theorem ReadsAt.mono {h0 h : AHeap} {x : AVal} {b : List UInt8} (hr : ReadsAt h0 x b) (hle : h0.le h) : ReadsAt h x b := by
  obtain ⟨⟨R, a⟩, c⟩ := hr; exact ⟨⟨R, a.mono hle⟩, c⟩

def tellZero : TellP := ⟨0, 0, 0, [], 0, [], []⟩
theorem Owns.boxStn {h0 h : AHeap} {l : List Ob} (ho : Owns h0 h l) (k : Nat) {id n : Nat} {cs xs : List AVal} {K : AHeap → Prop} (hk : l[k]? = some (.box (.ptr id 0 0) cs)) (hn : xs.length = n) (hc : cs.length = n)
    (hK : ∀ h', Owns h0 h' (l.set k (.box (.ptr id 0 0) xs)) → But (.ptr id 0 0) h h' → K h') : A.stn h (.ptr id 0 0) n (.agg xs) K := by
  obtain ⟨id', e, hb⟩ := ho.boxAt k hk
  cases e
  rw [stn_at hb hn (by omega)]
  have e1 : cs.take 0 ++ xs ++ cs.drop (0 + n) = xs := by simp [← hc]
  rw [e1]
  have hbut : But (.ptr id 0 0) h (upd h id (blkOf xs)) := fun j b e1 e2 => by rw [upd_other]; exact e1; intro e; subst e; exact e2 rfl
  exact hK _ (ho.turn k hk ⟨id, rfl, upd_same ..⟩ (fun j b hj hb' => by cases hj; rw [upd_same] at hb'; cases hb'; rfl) hbut (.inl rfl)) hbut

def tellEnd (t : TellP) (r : Rdr) : TellP × Nat × Int := if r.bad || !tellRight t then (tellZero, 0, 4) else (t, r.at_, 0)
/-- What getting answers. -/
@[simp] def TellP.val (g : TellP × Nat × Int) (x y : AVal) : AVal := .tup [.agg (g.1.cs x y), .int .i64 (g.2.1 : Int), .int .i64 g.2.2]

theorem tell_Get.fin (s : tell_Right.Spec C N) {h hh : AHeap} {i2 : Nat} {p x : AVal} {cs2 : List AVal} {t : TellP} {r : Rdr} {lx ly : AVal} {Q : AVal → AHeap → Prop} (ho : Owns h hh [.box (.ptr i2 0 0) cs2, .box p [x, .int .i64 (r.at_ : Int), .bool r.bad], .sl 6 lx (t.Lots.map Lot.cs) [], .sl 3 ly (t.Uses.map Use.cs) []])
    (hc : cs2.length = 7) (hl1 : t.Lots.length ≤ 65535) (hl2 : t.Uses.length ≤ 65535)
    (hq : ∀ x' y' h', Owns h h' [.sl 6 x' ((tellEnd t r).1.Lots.map Lot.cs) [], .sl 3 y' ((tellEnd t r).1.Uses.map Use.cs) []] → Q (TellP.val (tellEnd t r) x' y') h') : tell_Get.k1 C N (dn Q) (.ptr i2 0 0) p (.agg (t.cs lx ly)) hh := by
  obtain ⟨id, rfl, hbx⟩ := ho.boxAt 1 rfl
  simp +contextual -dsimp [ldv_at hbx]
  refine B.gdb_call (fun _ _ hq => s t lx ly _ _ ⟨⟨_, ho.slAt 2 rfl⟩, ⟨_, ho.slAt 3 rfl⟩⟩ (by omega) (by omega) hq) ?_
  simp +contextual -dsimp
  refine B.cond_bool (fun h1 => ?_) (fun h1 => ?_)
  · have e : tellEnd t r = (tellZero, 0, 4) := by unfold tellEnd; rw [if_pos]; simpa using h1
    rw [e] at hq
    try simp +contextual -dsimp
    refine ho.boxStn 0 rfl rfl hc fun h2 ho2 _ => ?_
    obtain ⟨id', e', hb2⟩ := ho2.boxAt 0 rfl
    cases e'
    simp -dsimp [ldnv_at hb2]
    refine dn_same (hq .nils .nils h2 ?_)
    exact ((Owns.nil ho2.le).nils 6).nils 3
  · have e : tellEnd t r = (t, r.at_, 0) := by unfold tellEnd; rw [if_neg]; simpa using h1
    rw [e] at hq
    try simp +contextual -dsimp
    simp -dsimp [ldv_at hbx]
    refine ho.boxStn 0 rfl rfl hc fun h2 ho2 _ => ?_
    obtain ⟨id', e', hb2⟩ := ho2.boxAt 0 rfl
    cases e'
    obtain ⟨id', e', hb3⟩ := ho2.boxAt 1 rfl
    cases e'
    refine ⟨fun q hq => ?_, ?_⟩
    · rw [List.mem_singleton.1 hq]
      exact ⟨.int .i64 (r.at_ : Int), by rw [ldv_at hbx]; rfl, by rw [ldv_at hb3]; rfl⟩
    · simp -dsimp [ldnv_at hb2]
      exact dn_same (hq lx ly h2 (ho2.sub (by simp)))

theorem ref14_Get.fin (s : ref14_Right.Spec C N) {h hh : AHeap} {i2 : Nat} {p x : AVal} {cs2 : List AVal} {t : TellP} {r : Rdr} {lx ly : AVal} {Q : AVal → AHeap → Prop} (ho : Owns h hh [.box (.ptr i2 0 0) cs2, .box p [x, .int .i64 (r.at_ : Int), .bool r.bad], .sl 6 lx (t.Lots.map Lot.cs) [], .sl 3 ly (t.Uses.map Use.cs) []])
    (hc : cs2.length = 7) (hl1 : t.Lots.length ≤ 65535) (hl2 : t.Uses.length ≤ 65535)
    (hq : ∀ x' y' h', Owns h h' [.sl 6 x' ((tellEnd t r).1.Lots.map Lot.cs) [], .sl 3 y' ((tellEnd t r).1.Uses.map Use.cs) []] → Q (TellP.val (tellEnd t r) x' y') h') : ref14_Get.k1 C N (dn Q) (.ptr i2 0 0) p (.agg (t.cs lx ly)) hh := by
  obtain ⟨id, rfl, hbx⟩ := ho.boxAt 1 rfl
  simp +contextual -dsimp [ldv_at hbx]
  refine B.gdb_call (fun _ _ hq => s t lx ly _ _ ⟨⟨_, ho.slAt 2 rfl⟩, ⟨_, ho.slAt 3 rfl⟩⟩ (by omega) (by omega) hq) ?_
  simp +contextual -dsimp
  refine B.cond_bool (fun h1 => ?_) (fun h1 => ?_)
  · have e : tellEnd t r = (tellZero, 0, 4) := by unfold tellEnd; rw [if_pos]; simpa using h1
    rw [e] at hq
    try simp +contextual -dsimp
    refine ho.boxStn 0 rfl rfl hc fun h2 ho2 _ => ?_
    obtain ⟨id', e', hb2⟩ := ho2.boxAt 0 rfl
    cases e'
    simp -dsimp [ldnv_at hb2]
    refine dn_same (hq .nils .nils h2 ?_)
    exact ((Owns.nil ho2.le).nils 6).nils 3
  · have e : tellEnd t r = (t, r.at_, 0) := by unfold tellEnd; rw [if_neg]; simpa using h1
    rw [e] at hq
    try simp +contextual -dsimp
    simp -dsimp [ldv_at hbx]
    refine ho.boxStn 0 rfl rfl hc fun h2 ho2 _ => ?_
    obtain ⟨id', e', hb2⟩ := ho2.boxAt 0 rfl
    cases e'
    obtain ⟨id', e', hb3⟩ := ho2.boxAt 1 rfl
    cases e'
    refine ⟨fun q hq => ?_, ?_⟩
    · rw [List.mem_singleton.1 hq]
      exact ⟨.int .i64 (r.at_ : Int), by rw [ldv_at hbx]; rfl, by rw [ldv_at hb3]; rfl⟩
    · simp -dsimp [ldnv_at hb2]
      exact dn_same (hq lx ly h2 (ho2.sub (by simp)))

/-- The loop over uses. -/
theorem ref14_Get.uses (s1 : ref13_Reader_Number.Spec C N) {b : List UInt8} {x lx : AVal} {i2 : Nat} {p : AVal} {bs hh : AHeap} {Q : AVal → AHeap → Prop} {e i d : Int} {c : List UInt8} {s : UInt8} {z : Nat} {r1 : Rdr} (hx : ReadsAt bs x b) (hcx : lx.isCell = true) (hz : z ≤ 65535) (hr1 : r1.at_ ≤ b.length)
    (ho : Owns bs hh [.box p [x, .int .i64 (r1.at_ : Int), .bool r1.bad]])
    (hk : ∀ o h', Owns bs h' [.sl 3 o ((rList (rUse b) z r1).1.map Use.cs) [], .box p [x, .int .i64 ((rList (rUse b) z r1).2.at_ : Int), .bool (rList (rUse b) z r1).2.bad]] → ref14_Get.k1 C N Q (.ptr i2 0 0) p (.agg [.int .i64 e, .int .i64 i, .int .i64 d, .str c, .int .u8 (s.toNat : Int), lx, o]) h') :
    LoopR (ref14_Get.l3 C N Q (.ptr i2 0 0) p) [.int .i64 (z : Int), .agg [.int .i64 e, .int .i64 i, .int .i64 d, .str c, .int .u8 (s.toNat : Int), lx, .nils]] hh := by
  obtain ⟨⟨R, hxx⟩, hb⟩ := hx
  refine LoopR.intro (fun t vs hh => ∃ (o : AVal) (acc : List Use) (r : Rdr), vs = [.int .i64 (t : Int), .agg [.int .i64 e, .int .i64 i, .int .i64 d, .str c, .int .u8 (s.toNat : Int), lx, o]] ∧ t ≤ 65535 ∧ acc.length + t ≤ 65535 ∧ r.at_ ≤ b.length ∧ acc ++ (rList (rUse b) t r).1 = (rList (rUse b) z r1).1 ∧ (rList (rUse b) t r).2 = (rList (rUse b) z r1).2 ∧
      Owns bs hh [.sl 3 o (acc.map Use.cs) [], .box p [x, .int .i64 (r.at_ : Int), .bool r.bad]]) z ?_ ⟨.nils, [], r1, rfl, by omega, by simp; omega, hr1, rfl, rfl, (ho.nils 3).perm (List.Perm.swap ..)⟩
  rintro Y t vs hh ⟨o, acc, r, rfl, ht, hal, hr, e1, e2, ho⟩ hY
  obtain ⟨id, rfl, hbx⟩ := ho.boxAt 1 rfl
  simp +contextual -dsimp [ldv_at hbx]
  refine B.cond_bool (fun h2 => ?_) (fun h2 => ?_) <;> simp at h2
  · obtain ⟨t, rfl⟩ : ∃ u, t = u + 1 := ⟨t - 1, by omega⟩
    simp only [rList, h2.2, Bool.false_eq_true, if_false] at e1 e2
    obtain ⟨q1, q2⟩ := ho.out (l1 := [_]) (l2 := [_])
    have hx1 := hxx.mono q1.le
    try simp +contextual -dsimp
    refine s1 _ hh _ x b R r 8 _ hx1 hb hr (by omega) q2 fun h3 ho3 => ?_
    have l3 := rNum_le (k := 8) hr
    try simp +contextual -dsimp
    refine s1 _ _ _ x b R _ 8 _ hx1 hb l3 (by omega) ho3 fun h4 ho4 => ?_
    have l4 := rNum_le (k := 8) l3
    try simp +contextual -dsimp
    refine s1 _ _ _ x b R _ 8 _ hx1 hb l4 (by omega) ho4 fun h5 ho5 => ?_
    have ho6 := q1.join ho5
    try simp +contextual -dsimp
    refine ho6.push 0 rfl rfl (by omega) (by simp; omega) (by simp [maxLen]; omega) fun o' h7 ho7 _ => ?_
    have e4 : IntKind.i64.wrap (((t + 1 : Nat) : Int) - 1) = (t : Int) := by rw [wrap_i64 (by omega) (by omega)]; omega
    have hco := (ho7.slAt 0 rfl).isCell
    simp -dsimp only [B.al_agg, V.setF_agg, V.put1_cell, hco, cond_true, List.length_set, List.length_cons, List.length_nil, List.set, optAgg_some, B.pv_some, if_true, show 6 < 0 + 1 + 1 + 1 + 1 + 1 + 1 + 1 by omega, V.bin_sub, e4]
    refine hY t _ _ (by omega) ⟨o', acc ++ [(rUse b r).1], (rUse b r).2, rfl, by omega, by simp; omega, rUse_le hr, ?_, e2, ?_⟩
    · rw [← e1, List.append_assoc]; rfl
    · rw [List.map_append]; exact ho7
  · have : (rList (rUse b) t r) = ([], r) := by
      cases t with
      | zero => rfl
      | succ t => simp [rList, h2 (by omega)]
    rw [this, List.append_nil] at e1
    rw [this] at e2
    subst e1
    rw [← e2] at hk
    exact hk _ _ ho
theorem ref14_Get.lots (s1 : ref13_Reader_Number.Spec C N) (s2 : ref14_lot.Spec C N) {b : List UInt8} {x : AVal} {i2 : Nat} {p : AVal} {bs hh : AHeap} {Q : AVal → AHeap → Prop} {e i d : Int} {c : List UInt8} {s : UInt8} {z : Nat} {r1 : Rdr} (hx : ReadsAt bs x b) (hz : z ≤ 65535) (hr1 : r1.at_ ≤ b.length)
    (ho : Owns bs hh [.box p [x, .int .i64 (r1.at_ : Int), .bool r1.bad]])
    (hk : ∀ o h', Owns bs h' [.sl 6 o ((rList (rLot b) z r1).1.map Lot.cs) [], .box p [x, .int .i64 ((rList (rLot b) z r1).2.at_ : Int), .bool (rList (rLot b) z r1).2.bad]] →
      C (N 71) [p, .int .i64 2] h' fun v54 h => LoopR (ref14_Get.l3 C N Q (.ptr i2 0 0) p) [v54, .agg [.int .i64 e, .int .i64 i, .int .i64 d, .str c, .int .u8 (s.toNat : Int), o, .nils]] h) :
    LoopR (ref14_Get.l5 C N Q (.ptr i2 0 0) p) [.int .i64 (z : Int), .agg [.int .i64 e, .int .i64 i, .int .i64 d, .str c, .int .u8 (s.toNat : Int), .nils, .nils]] hh := by
  obtain ⟨⟨R, hxx⟩, hb⟩ := hx
  refine LoopR.intro (fun t vs hh => ∃ (o : AVal) (acc : List Lot) (r : Rdr), vs = [.int .i64 (t : Int), .agg [.int .i64 e, .int .i64 i, .int .i64 d, .str c, .int .u8 (s.toNat : Int), o, .nils]] ∧ t ≤ 65535 ∧ acc.length + t ≤ 65535 ∧ r.at_ ≤ b.length ∧ acc ++ (rList (rLot b) t r).1 = (rList (rLot b) z r1).1 ∧ (rList (rLot b) t r).2 = (rList (rLot b) z r1).2 ∧
      Owns bs hh [.sl 6 o (acc.map Lot.cs) [], .box p [x, .int .i64 (r.at_ : Int), .bool r.bad]]) z ?_ ⟨.nils, [], r1, rfl, by omega, by simp; omega, hr1, rfl, rfl, (ho.nils 6).perm (List.Perm.swap ..)⟩
  rintro Y t vs hh ⟨o, acc, r, rfl, ht, hal, hr, e1, e2, ho⟩ hY
  obtain ⟨id, rfl, hbx⟩ := ho.boxAt 1 rfl
  simp +contextual -dsimp [ldv_at hbx]
  refine B.cond_bool (fun h2 => ?_) (fun h2 => ?_) <;> simp at h2
  · obtain ⟨t, rfl⟩ : ∃ u, t = u + 1 := ⟨t - 1, by omega⟩
    simp only [rList, h2.2, Bool.false_eq_true, if_false] at e1 e2
    obtain ⟨q1, q2⟩ := ho.out (l1 := [_]) (l2 := [_])
    have hx1 := hxx.mono q1.le
    try simp +contextual -dsimp
    refine s2 _ hh _ x b R r _ hx1 hb hr q2 fun h5 ho5 => ?_
    have ho6 := q1.join ho5
    try simp +contextual -dsimp
    refine ho6.push 0 rfl rfl (by omega) (by simp; omega) (by simp [maxLen]; omega) fun o' h7 ho7 _ => ?_
    have e4 : IntKind.i64.wrap (((t + 1 : Nat) : Int) - 1) = (t : Int) := by rw [wrap_i64 (by omega) (by omega)]; omega
    have hco := (ho7.slAt 0 rfl).isCell
    simp -dsimp only [B.al_agg, V.setF_agg, V.put1_cell, hco, cond_true, List.length_set, List.length_cons, List.length_nil, List.set, optAgg_some, B.pv_some, if_true, show 5 < 0 + 1 + 1 + 1 + 1 + 1 + 1 + 1 by omega, V.bin_sub, e4]
    refine hY t _ _ (by omega) ⟨o', acc ++ [(rLot b r).1], (rLot b r).2, rfl, by omega, by simp; omega, rLot_le hr, ?_, e2, ?_⟩
    · rw [← e1, List.append_assoc]; rfl
    · rw [List.map_append]; exact ho7
  · have : (rList (rLot b) t r) = ([], r) := by
      cases t with
      | zero => rfl
      | succ t => simp [rList, h2 (by omega)]
    rw [this, List.append_nil] at e1
    rw [this] at e2
    subst e1
    rw [← e2] at hk
    exact hk _ _ ho
end Go.Ab

/- What is told: residuals: what each function does in the abstract memory, printed by a program of mine. Definitions alone. -/
set_option linter.unusedVariables false
namespace Go.Ab
end Go.Ab

/- What is proved: contracts of the statements about answers. No conditions. -/
set_option linter.unusedVariables false
set_option linter.unusedSimpArgs false
set_option maxRecDepth 100000
namespace Go.Ab
variable {C : CSem} {N : Nat → Nat}

end Go.Ab

/- What is proved: contracts of the fourth chapter's statements' functions: lists. No conditions. -/
set_option linter.unusedVariables false
set_option linter.unusedSimpArgs false
namespace Go.Ab
variable {C : CSem} {N : Nat → Nat}
end Go.Ab

/- What is proved: contract of the fourth chapter's closed statement. No conditions. -/
set_option linter.unusedVariables false
set_option linter.unusedSimpArgs false
namespace Go.Ab
variable {C : CSem} {N : Nat → Nat}
theorem litP {h : AHeap} {es n : Nat} {cs : List AVal} (L : List (List AVal)) {K : Nat → AHeap → Prop} (hc : cs = L.flatten) (hL : ∀ p ∈ L, p.length = es) (hn : n = L.length) (hK : ∀ i h', Owns h h' [.sl es (.sl i 0 0 n es n) L []] → K i h') : B.newO h (some cs) K :=
  fun i hi => hK i _ ((Owns.start h).newSl hi (by simpa using hL) hn (by simp; omega) (by simpa using hc))
def idsL : List Int := [-9223372036854775808, -1, 0, 1, 2, 9223372036854775807]
def daysL : List Int := [-9223372036854775808, -1, 0, 1, 3999, 4000, 4001, 4002, 9223372036854775807]
def qtysL : List Int := [-1, 0, 1, 1073741824, 1073741825, 9223372036854775807]
def itemsL : List (List UInt8) := [[], [65], [97], [65, 66, 67, 68, 69, 70, 71, 72, 73, 74, 75, 76, 77]]
structure Lits (h : AHeap) (vi vd vq vt : AVal) : Prop where
  i : SlX h 1 vi (idsL.map ic) []
  d : SlX h 1 vd (daysL.map ic) []
  q : SlX h 1 vq (qtysL.map ic) []
  t : SlX h 1 vt (itemsL.map tc) []
theorem Lits.mono {h H : AHeap} {vi vd vq vt : AVal} (l : Lits h vi vd vq vt) (hle : h.le H) : Lits H vi vd vq vt := ⟨l.i.mono hle, l.d.mono hle, l.q.mono hle, l.t.mono hle⟩
section
variable {h : AHeap} {v : AVal} {R : List (List AVal)} {j : Nat}
end
section
variable {h0 h : AHeap} {vi vd vq vt : AVal} {Q : AVal → AHeap → Prop} {Y5 : List AVal → AHeap → Prop}
end
end Go.Ab

/- What is proved: contracts of the statements on wants: the shared parts. No conditions. -/
set_option linter.unusedVariables false
set_option linter.unusedSimpArgs false
namespace Go.Ab
variable {C : CSem} {N : Nat → Nat}
def awL : List Lot := [⟨1, [65], 0, 5, 3, false⟩, ⟨2, [65], 0, 9, 4, false⟩]
def awW : List Want := [⟨[65], 7, 2⟩, ⟨[65], 2, 5⟩]
def awV : List Want := [⟨[65], 4, 6⟩, ⟨[65], 8, 2⟩]
theorem aw_greedy : (greedy awL awW).map (·.1) = some [⟨1, 1, 3⟩, ⟨1, 2, 2⟩, ⟨0, 2, 2⟩] := by decide
theorem aw_greedy2 : (greedy awL awV).map (·.1) = none := by decide
def law05_awake.Spec (C : CSem) (N : Nat → Nat) : Prop := ∀ (h : AHeap) (Q : AVal → AHeap → Prop), Q (.bool true) h → C (N 213) [] h Q
theorem law05_awake.spec (i : law05_awake.Imp C N) (s1 : flow_Fill.Spec C N) (s2 : flow_Fits.Spec C N) : law05_awake.Spec C N := by
  intro h Q hq
  apply i
  simp -dsimp [A.bld, repL]
  refine litP (es := 6) (n := 2) (awL.map Lot.cs) rfl (by simp [awL]) rfl fun i1 h1 o1 => ?_
  simp -dsimp [A.bld, repL]
  refine litP (es := 3) (n := 2) (awW.map Want.cs) rfl (by simp [awW]) rfl fun i2 h2 o2 => ?_
  have l1 := (o1.slAt 0 rfl).mono o2.le
  refine s1 _ _ awL awW _ _ _ _ l1 (o2.slAt 0 rfl) (by decide) (by decide) ⟨fun hn => ?_, fun us lf he _ h3 x o3 => ?_⟩
  · have := aw_greedy; rw [hn] at this; cases this
  have e := aw_greedy
  rw [he] at e
  simp only [Option.map_some, Option.some.injEq] at e
  subst e
  have a := o3.slAt 0 rfl
  have i0 : V.idxS 3 x (.int .i64 0) = some (elp 3 x 0 0) := a.idxN (i := 0) (by simp)
  have i1 : V.idxS 3 x (.int .i64 1) = some (elp 3 x 1 0) := a.idxN (i := 1) (by simp)
  have i2 : V.idxS 3 x (.int .i64 2) = some (elp 3 x 2 0) := a.idxN (i := 2) (by simp)
  have d0 := a.elem (i := 0) (c := Use.cs ⟨1, 1, 3⟩) rfl
  have d1 := a.elem (i := 1) (c := Use.cs ⟨1, 2, 2⟩) rfl
  have d2 := a.elem (i := 2) (c := Use.cs ⟨0, 2, 2⟩) rfl
  simp at d0 d1 d2
  have q0 : V.binAgg .eql [.i .i64, .i .i64, .i .i64] (.agg [.int .i64 1, .int .i64 1, .int .i64 3]) (.agg [.int .i64 1, .int .i64 1, .int .i64 3]) = some (.bool true) := useF.eql ⟨1, 1, 3⟩ ⟨1, 1, 3⟩
  have q1 : V.binAgg .eql [.i .i64, .i .i64, .i .i64] (.agg [.int .i64 1, .int .i64 2, .int .i64 2]) (.agg [.int .i64 1, .int .i64 2, .int .i64 2]) = some (.bool true) := useF.eql ⟨1, 2, 2⟩ ⟨1, 2, 2⟩
  have q2 : V.binAgg .eql [.i .i64, .i .i64, .i .i64] (.agg [.int .i64 0, .int .i64 2, .int .i64 2]) (.agg [.int .i64 0, .int .i64 2, .int .i64 2]) = some (.bool true) := useF.eql ⟨0, 2, 2⟩ ⟨0, 2, 2⟩
  simp -dsimp [a.lenSl, i0, i1, i2, q0, q1, q2, d0, d1, d2, A.bld, repL]
  refine litP (es := 3) (n := 2) (awV.map Want.cs) rfl (by simp [awV]) rfl fun i4 h4 o4 => ?_
  simp -dsimp
  have l4 := l1.mono (AHeap.le_trans o3.le o4.le)
  refine s2 _ _ awL awV _ _ _ _ l4 (o4.slAt 0 rfl) (by decide) (by decide) ?_
  have e2 : (greedy awL awV).isSome = false := by
    have := aw_greedy2
    cases hg : greedy awL awV with
    | none => rfl
    | some x => rw [hg] at this; cases this
  rw [e2]
  simp -dsimp
  exact dn_le (AHeap.le_trans o1.le (AHeap.le_trans o2.le (AHeap.le_trans o3.le o4.le))) hq
def small (L : List Lot) (W : List Want) : Bool := decide (L.length ≤ 40) && decide (W.length ≤ 60)
def law05_small.Spec (C : CSem) (N : Nat → Nat) : Prop := ∀ (x y : AVal) (L : List Lot) (W : List Want) (R S : List (List AVal)) (h : AHeap) (Q : AVal → AHeap → Prop), SlX h 6 x (L.map Lot.cs) R → SlX h 3 y (W.map Want.cs) S →
  Q (.bool (small L W)) h → C (N 214) [x, y] h Q
theorem law05_small.spec (i : law05_small.Imp C N) : law05_small.Spec C N := by
  intro x y L W R S h Q hx hy hq
  apply i
  have e1 := hx.lenSl
  have e2 := hy.lenSl
  rw [List.length_map] at e1 e2
  simp +contextual -dsimp [e1, e2]
  have : (decide (L.length ≤ 40) && decide (W.length ≤ 60)) = (decide ((L.length : Int) ≤ 40) && decide ((W.length : Int) ≤ 60)) := by rw [Bool.eq_iff_iff]; simp; omega
  rw [← this]
  exact dn_same hq
end Go.Ab

/- What is proved: Hall's condition by the wants themselves: in any order, with fewer wants, with more lots. No program in sight. No conditions. -/
set_option linter.unusedVariables false
set_option linter.unusedSimpArgs false
namespace Go.Ab
theorem sumF_map {α β : Type} (f : β → Int) (g : α → β) : ∀ l : List α, sumF f (l.map g) = sumF (fun a => f (g a)) l
  | [] => rfl
  | a :: l => by simp only [List.map_cons, sumF]; rw [sumF_map f g l]
theorem sumF_append {α : Type} (f : α → Int) : ∀ l m : List α, sumF f (l ++ m) = sumF f l + sumF f m
  | [], m => by simp [sumF]
  | a :: l, m => by simp only [List.cons_append, sumF]; rw [sumF_append f l m]; omega
theorem sumF_perm {α : Type} (f : α → Int) {l m : List α} (h : l.Perm m) : sumF f l = sumF f m := by
  induction h with
  | nil => rfl
  | cons a _ ih => simp only [sumF]; rw [ih]
  | swap a b l => simp only [sumF]; omega
  | trans _ _ i j => rw [i, j]
theorem wAt_range (W : List Want) : (List.range W.length).map (wAt W) = W := by
  apply List.ext_getElem?
  intro i
  by_cases hi : i < W.length
  · rw [List.getElem?_map, List.getElem?_range hi, Option.map_some, wAt_get hi, List.getElem?_eq_getElem hi]
  · rw [List.getElem?_eq_none (by simp; omega), List.getElem?_eq_none (by omega)]
theorem wAt_in {W : List Want} {i : Nat} (h : i < W.length) : wAt W i ∈ W := by rw [wAt_get h]; exact List.getElem_mem h
def wantS' (W : List Want) (T : Want → Bool) : Int := sumF (fun w => bif T w then w.Qty else 0) W
def haveS (L : List Lot) (W : List Want) (T : Want → Bool) : Int := sumF (fun l => bif W.any (fun w => T w && serves l w) then l.Qty else 0) L
def HallW (L : List Lot) (W : List Want) : Prop := ∀ T : Want → Bool, wantS' W T ≤ haveS L W T
theorem hall_iff {L : List Lot} {W : List Want} (hn : (L.map Lot.Id).Nodup) (hw : ∀ w ∈ W, 0 ≤ w.Qty) : Hall L W ↔ HallW L W := by
  have eL : ∀ S, leftS L W (csStart L W).left S = sumF (fun l => bif nS W S l then l.Qty else 0) L := fun S => sumF_congr fun l hl => by
    simp only [csStart]; rw [left0_of hn hl]
  have eN : ∀ T : Want → Bool, wantS' W T = sumF (fun i => bif T (wAt W i) then (wAt W i).Qty else 0) (List.range W.length) := fun T => by
    unfold wantS'
    conv => lhs; rw [← wAt_range W]
    rw [sumF_map]
  constructor
  · intro h T
    have := h fun i => T (wAt W i)
    rw [eL] at this
    rw [eN]
    refine Int.le_trans this (Int.le_of_eq ?_)
    unfold haveS
    refine sumF_congr fun l hl => ?_
    have : nS W (fun i => T (wAt W i)) l = W.any fun w => T w && serves l w := by
      unfold nS
      conv => rhs; rw [← wAt_range W]
      rw [List.any_map]; rfl
    rw [this]
  · intro h S
    have := h fun w => (List.range W.length).any fun i => S i && decide (wAt W i = w)
    rw [eN] at this
    rw [eL]
    refine Int.le_trans ?_ (Int.le_trans this (Int.le_of_eq ?_))
    · unfold needS
      refine sumF_le fun i hi => ?_
      simp only [csStart]
      have hi' := List.mem_range.1 hi
      have nn := hw _ (wAt_in hi')
      cases hS : S i with
      | true =>
        have : ((List.range W.length).any fun j => S j && decide (wAt W j = wAt W i)) = true := List.any_eq_true.2 ⟨i, hi, by simp [hS]⟩
        rw [this]; exact Int.le_refl _
      | false => simp only [cond_false]; cases (List.range W.length).any fun j => S j && decide (wAt W j = wAt W i) <;> simp [nn]
    · unfold haveS
      refine sumF_congr fun l hl => ?_
      have : (W.any fun w => ((List.range W.length).any fun i => S i && decide (wAt W i = w)) && serves l w) = nS W S l := by
        rw [Bool.eq_iff_iff]
        unfold nS
        simp only [List.any_eq_true, Bool.and_eq_true, decide_eq_true_eq, List.mem_range]
        constructor
        · rintro ⟨w, _, ⟨i, hi, hS, rfl⟩, hs⟩; exact ⟨i, hi, hS, hs⟩
        · rintro ⟨i, hi, hS, hs⟩; exact ⟨_, wAt_in hi, ⟨i, hi, hS, rfl⟩, hs⟩
      rw [this]
theorem greedy_hallW {L : List Lot} {W : List Want} (hm : mayBe L W = true) : (greedy L W).isSome = true ↔ HallW L W := by
  obtain ⟨f1, f2, f3, f4, f5⟩ := mayBe_facts hm
  rw [greedy_hall hm, hall_iff f4 fun w hw => by have := wantRight_facts (f5 w hw); omega]
theorem HallW.perm {L : List Lot} {W V : List Want} (hp : W.Perm V) (h : HallW L W) : HallW L V := fun T => by
  have := h T
  unfold wantS' haveS at *
  rw [sumF_perm _ hp] at this
  have e : ∀ l, (W.any fun w => T w && serves l w) = V.any fun w => T w && serves l w := fun l => by
    rw [Bool.eq_iff_iff, List.any_eq_true, List.any_eq_true]
    simp only [hp.mem_iff]
  simp only [e] at this
  exact this
theorem HallW.less {L : List Lot} {W : List Want} {w : Want} (hq : 0 ≤ w.Qty) (h : HallW L (w :: W)) : HallW L W := fun T => by
  have := h fun v => T v && decide (v ∈ W)
  unfold wantS' haveS at *
  simp only [sumF] at this
  have h1 : sumF (fun v => bif T v && decide (v ∈ W) then v.Qty else 0) W = sumF (fun v => bif T v then v.Qty else 0) W := sumF_congr fun v hv => by simp [hv]
  have h2 : 0 ≤ (bif T w && decide (w ∈ W) then w.Qty else 0) := by
    cases T w && decide (w ∈ W)
    · exact Int.le_refl _
    · exact hq
  have h3 : sumF (fun l => bif (w :: W).any (fun v => (T v && decide (v ∈ W)) && serves l v) then l.Qty else 0) L = sumF (fun l => bif W.any (fun v => T v && serves l v) then l.Qty else 0) L := sumF_congr fun l _ => by
    have : ((w :: W).any fun v => (T v && decide (v ∈ W)) && serves l v) = W.any fun v => T v && serves l v := by
      rw [Bool.eq_iff_iff]
      simp only [List.any_eq_true, Bool.and_eq_true, decide_eq_true_eq, List.mem_cons]
      constructor
      · rintro ⟨v, _, ⟨a, b⟩, c⟩; exact ⟨v, b, a, c⟩
      · rintro ⟨v, b, a, c⟩; exact ⟨v, .inr b, ⟨a, b⟩, c⟩
    rw [this]
  rw [h3] at this
  omega
theorem mayBe_iff {L : List Lot} {W : List Want} : mayBe L W = true ↔ L.length ≤ 300 ∧ W.length ≤ 20000 ∧ (∀ l ∈ L, lotRight l = true) ∧ (L.map Lot.Id).Nodup ∧ ∀ w ∈ W, wantRight w = true := by
  refine ⟨mayBe_facts, fun ⟨a, b, c, d, e⟩ => ?_⟩
  simp only [mayBe, Bool.and_eq_true, decide_eq_true_eq, List.all_eq_true]
  exact ⟨⟨⟨⟨a, b⟩, c⟩, d⟩, e⟩
theorem greedy_may {L : List Lot} {W : List Want} (h : (greedy L W).isSome = true) : mayBe L W = true := by
  cases e : greedy L W with
  | none => rw [e] at h; cases h
  | some x => exact (greedy_checks (us := x.1) (lf := x.2) e).1
theorem greedy_perm {L : List Lot} {W V : List Want} (hp : W.Perm V) : (greedy L W).isSome = (greedy L V).isSome := by
  have hm : mayBe L W = true ↔ mayBe L V = true := by
    rw [mayBe_iff, mayBe_iff, hp.length_eq]
    simp only [hp.mem_iff]
  rw [Bool.eq_iff_iff]
  constructor
  · intro h
    have m := greedy_may h
    exact (greedy_hallW (hm.1 m)).2 (((greedy_hallW m).1 h).perm hp)
  · intro h
    have m := greedy_may h
    exact (greedy_hallW (hm.2 m)).2 (((greedy_hallW m).1 h).perm hp.symm)
theorem checks_greedy {L : List Lot} {W : List Want} {us : List Use} (h : checks L W us = true) : (greedy L W).isSome = true := by
  obtain ⟨m, hh⟩ := checks_hall h
  exact (greedy_hall m).2 hh
/-- Nothing is lost. -/
theorem chk_sum {L : List Lot} {W : List Want} (hn : (L.map Lot.Id).Nodup) : ∀ {us : List Use} {s s' : CS}, chkRun L W s us = some s' → sumF (fun l => s.left l.Id) L = sumF (fun l => s'.left l.Id) L + sumF Use.Qty us ∧ ∀ u ∈ us, 1 ≤ u.Qty
  | [], s, s', h => by cases h; simp [sumF]
  | u :: us, s, s', h => by
    obtain ⟨l, h1, h2, h3, h4⟩ := chkRun_cons h
    have ih := chk_sum hn h4
    have e : sumF (fun l => (chkStep s u).left l.Id) L = sumF (fun l => s.left l.Id) L + -u.Qty := sumF_upd (a := l) (nodup_of_map hn) h1 (fun b hb hne => by
      have : b.Id ≠ u.Lot := fun e => hne (id_inj hn hb h1 (by rw [e, h2]))
      simp [chkStep, this]) (by simp [chkStep, h2]; omega)
    refine ⟨?_, fun v hv => ?_⟩
    · simp only [sumF]; omega
    · rcases List.mem_cons.1 hv with rfl | hv
      · exact h3.q
      · exact ih.2 v hv
end Go.Ab

/- What is proved: contract of the statement that what is filled serves. No conditions. -/
set_option linter.unusedVariables false
set_option linter.unusedSimpArgs false
namespace Go.Ab
variable {C : CSem} {N : Nat → Nat}
theorem leftLots_sum {lf : Lf} (h : LfOk lf) : ∀ L : List Lot, sumF Lot.Qty (leftLots L lf) = sumF (fun l => lf l.Id) L ∧ ∀ l ∈ leftLots L lf, 0 ≤ l.Qty
  | [] => ⟨rfl, fun l hl => by cases hl⟩
  | a :: L => by
    have ih := leftLots_sum h L
    unfold leftLots at ih ⊢
    rw [List.filterMap_cons]
    have := h a.Id
    split
    · rename_i e
      split at e
      · cases e
      · refine ⟨?_, ih.2⟩
        simp only [sumF]; rw [ih.1]; omega
    · rename_i b e
      split at e
      · cases e
        refine ⟨?_, fun l hl => ?_⟩
        · simp only [sumF]; rw [ih.1]
        · rcases List.mem_cons.1 hl with rfl | hl
          · simp only; omega
          · exact ih.2 l hl
      · cases e
theorem sum_take {α : Type} {f : α → Int} {L : List α} {k : Nat} (hk : k < L.length) : sumF f (L.take (k + 1)) = sumF f (L.take k) + f L[k] := by
  rw [take_one hk, sumF_append]; simp [sumF]
theorem sum_bound {α : Type} {f : α → Int} {b : Int} : ∀ {L : List α}, (∀ a ∈ L, 0 ≤ f a ∧ f a ≤ b) → 0 ≤ sumF f L ∧ sumF f L ≤ b * L.length
  | [], _ => by simp [sumF]
  | a :: L, h => by
    have h1 := h a (by simp)
    have h2 := sum_bound (L := L) fun c hc => h c (by simp [hc])
    have e : b * ((L.length + 1 : Nat) : Int) = b * L.length + b := by rw [Int.natCast_add, Int.mul_add]; simp
    simp only [sumF, List.length_cons]
    rw [e]; omega
theorem sum_part {α : Type} {f : α → Int} {L : List α} (h : ∀ a ∈ L, 0 ≤ f a) (k : Nat) : 0 ≤ sumF f (L.take k) ∧ sumF f (L.take k) ≤ sumF f L := by
  have h1 := sumF_append f (L.take k) (L.drop k)
  rw [List.take_append_drop] at h1
  have h2 : 0 ≤ sumF f (L.take k) := sumF_nn fun a ha => h a (List.mem_of_mem_take ha)
  have h3 : 0 ≤ sumF f (L.drop k) := sumF_nn fun a ha => h a (List.mem_of_mem_drop ha)
  omega
section
variable {h : AHeap} {Q : AVal → AHeap → Prop} {x z v9 v13 : AVal} {R T : List (List AVal)}
theorem serves_uses {us : List Use} (hz : SlX h 3 z (us.map Use.cs) T) (hl : us.length ≤ 6000000) (hn : ∀ u ∈ us, 0 ≤ u.Qty) (hb : sumF Use.Qty us ≤ 1152921504606846976) (hq : Q (.bool true) h) :
    LoopR (law05_FlowServes.l2 C N Q z) [.int .i64 (sumF Use.Qty us), .int .i64 0] h := by
  have e := hz.lenSl
  rw [List.length_map] at e
  refine LoopR.intro (fun t vs hh => hh = h ∧ ∃ k : Nat, k + t = us.length ∧ vs = [.int .i64 (sumF Use.Qty us - sumF Use.Qty (us.take k)), .int .i64 (k : Int)]) us.length ?_ ⟨rfl, 0, by omega, by simp [sumF]⟩
  rintro Y t vs hh ⟨rfl, k, hkt, rfl⟩ hY
  simp -dsimp only [law05_FlowServes.l2, law05_FlowServes.k1, e, lssN, B.pv_some]
  refine B.cond_bool (fun hc => ?_) (fun hc => ?_) <;> simp only [decide_eq_true_eq, decide_eq_false_iff_not] at hc
  · have hg : (us.map Use.cs)[k]? = some (us[k]).cs := by rw [List.getElem?_map, List.getElem?_eq_getElem hc]; rfl
    have ix : V.idxS 3 z (.int .i64 (k : Int)) = some (elp 3 z k 0) := hz.idxN (by simpa using hc)
    have fx : V.fieldAddr 2 (elp 3 z k 0) = some (elp 3 z k 2) := by have := hz.fieldA (i := k) (by simpa using hc) 0 2; simpa using this
    have lx : A.ldv hh (elp 3 z k 2) = some (.int .i64 us[k].Qty) := by have := hz.ldv (i := k) (f := 2) hg (by omega); simpa using this
    have p1 := sum_part hn k
    have p2 := sum_part hn (k + 1)
    have p3 := sum_take (f := Use.Qty) hc
    have p4 := hn _ (List.getElem_mem hc)
    simp -dsimp only [ix, fx, B.ld_eq, lx, V.bin_sub, add1 (show k < 4611686018427387904 by omega), B.pv_some]
    rw [wrap_i64 (by omega) (by omega)]
    exact hY (us.length - (k + 1)) _ _ (by omega) ⟨rfl, k + 1, by omega, by rw [p3]; congr 2; omega⟩
  · rw [List.take_of_length_le (by omega), Int.sub_self]
    simp -dsimp
    exact hq
theorem serves_left {M : List Lot} {us : List Use} (hv : SlX h 6 v13 (M.map Lot.cs) R) (hvl : M.length ≤ 300) (hz : SlX h 3 z (us.map Use.cs) T) (hl : us.length ≤ 6000000) (hn : ∀ u ∈ us, 0 ≤ u.Qty) (hnv : ∀ l ∈ M, 0 ≤ l.Qty) (hb : sumF Lot.Qty M + sumF Use.Qty us ≤ 1152921504606846976) (hq : Q (.bool true) h) :
    LoopR (law05_FlowServes.l4 C N Q z v13) [.int .i64 (sumF Lot.Qty M + sumF Use.Qty us), .int .i64 0] h := by
  have e := hv.lenSl
  rw [List.length_map] at e
  have u0 : 0 ≤ sumF Use.Qty us := sumF_nn hn
  have v0 : 0 ≤ sumF Lot.Qty M := sumF_nn hnv
  refine LoopR.intro (fun t vs hh => hh = h ∧ ∃ k : Nat, k + t = M.length ∧ vs = [.int .i64 (sumF Lot.Qty M + sumF Use.Qty us - sumF Lot.Qty (M.take k)), .int .i64 (k : Int)]) M.length ?_ ⟨rfl, 0, by omega, by simp [sumF]⟩
  rintro Y t vs hh ⟨rfl, k, hkt, rfl⟩ hY
  simp -dsimp only [law05_FlowServes.l4, law05_FlowServes.k3, e, lssN, B.pv_some]
  refine B.cond_bool (fun hc => ?_) (fun hc => ?_) <;> simp only [decide_eq_true_eq, decide_eq_false_iff_not] at hc
  · have hg : (M.map Lot.cs)[k]? = some (M[k]).cs := by rw [List.getElem?_map, List.getElem?_eq_getElem hc]; rfl
    have ix : V.idxS 6 v13 (.int .i64 (k : Int)) = some (elp 6 v13 k 0) := hv.idxN (by simpa using hc)
    have fx : V.fieldAddr 4 (elp 6 v13 k 0) = some (elp 6 v13 k 4) := by have := hv.fieldA (i := k) (by simpa using hc) 0 4; simpa using this
    have lx : A.ldv hh (elp 6 v13 k 4) = some (.int .i64 M[k].Qty) := by have := hv.ldv (i := k) (f := 4) hg (by omega); simpa using this
    have p1 := sum_part hnv k
    have p2 := sum_part hnv (k + 1)
    have p3 := sum_take (f := Lot.Qty) hc
    have p4 := hnv _ (List.getElem_mem hc)
    simp -dsimp only [ix, fx, B.ld_eq, lx, V.bin_sub, add1 (show k < 4611686018427387904 by omega), B.pv_some]
    rw [wrap_i64 (by omega) (by omega)]
    exact hY (M.length - (k + 1)) _ _ (by omega) ⟨rfl, k + 1, by omega, by rw [p3]; congr 2; omega⟩
  · rw [List.take_of_length_le (by omega), show sumF Lot.Qty M + sumF Use.Qty us - sumF Lot.Qty M = sumF Use.Qty us by omega]
    exact serves_uses hz hl hn (by omega) hq
theorem serves_all {L M : List Lot} {us : List Use} (hx : SlX h 6 x (L.map Lot.cs) R) (hL : L.length ≤ 300) {R' : List (List AVal)} (hv : SlX h 6 v13 (M.map Lot.cs) R') (hvl : M.length ≤ 300) (hz : SlX h 3 z (us.map Use.cs) T) (hl : us.length ≤ 6000000) (hn : ∀ u ∈ us, 0 ≤ u.Qty) (hnv : ∀ l ∈ M, 0 ≤ l.Qty)
    (hnl : ∀ l ∈ L, 0 ≤ l.Qty ∧ l.Qty ≤ 1073741824) (hs : sumF Lot.Qty L = sumF Lot.Qty M + sumF Use.Qty us) (hq : Q (.bool true) h) : LoopR (law05_FlowServes.l6 C N Q x z v13) [.int .i64 0, .int .i64 0] h := by
  have e := hx.lenSl
  rw [List.length_map] at e
  have hnl' : ∀ l ∈ L, 0 ≤ l.Qty := fun l hl => (hnl l hl).1
  have sb := sum_bound (f := Lot.Qty) hnl
  have sb2 : (1073741824 : Int) * L.length ≤ 1073741824 * 300 := Int.mul_le_mul_of_nonneg_left (by omega) (by omega)
  refine LoopR.intro (fun t vs hh => hh = h ∧ ∃ k : Nat, k + t = L.length ∧ vs = [.int .i64 (sumF Lot.Qty (L.take k)), .int .i64 (k : Int)]) L.length ?_ ⟨rfl, 0, by omega, by simp [sumF]⟩
  rintro Y t vs hh ⟨rfl, k, hkt, rfl⟩ hY
  simp -dsimp only [law05_FlowServes.l6, law05_FlowServes.k5, e, lssN, B.pv_some]
  refine B.cond_bool (fun hc => ?_) (fun hc => ?_) <;> simp only [decide_eq_true_eq, decide_eq_false_iff_not] at hc
  · have hg : (L.map Lot.cs)[k]? = some (L[k]).cs := by rw [List.getElem?_map, List.getElem?_eq_getElem hc]; rfl
    have ix : V.idxS 6 x (.int .i64 (k : Int)) = some (elp 6 x k 0) := hx.idxN (by simpa using hc)
    have fx : V.fieldAddr 4 (elp 6 x k 0) = some (elp 6 x k 4) := by have := hx.fieldA (i := k) (by simpa using hc) 0 4; simpa using this
    have lx : A.ldv hh (elp 6 x k 4) = some (.int .i64 L[k].Qty) := by have := hx.ldv (i := k) (f := 4) hg (by omega); simpa using this
    have p1 := sum_part hnl' k
    have p2 := sum_part hnl' (k + 1)
    have p3 := sum_take (f := Lot.Qty) hc
    have p4 := hnl' _ (List.getElem_mem hc)
    simp -dsimp only [ix, fx, B.ld_eq, lx, V.bin_add, add1 (show k < 4611686018427387904 by omega), B.pv_some]
    rw [wrap_i64 (by omega) (by omega)]
    exact hY (L.length - (k + 1)) _ _ (by omega) ⟨rfl, k + 1, by omega, by rw [p3]⟩
  · rw [List.take_of_length_le (by omega), hs]
    exact serves_left hv hvl hz hl hn hnv (by omega) hq
end
def law05_FlowServes.Spec (C : CSem) (N : Nat → Nat) : Prop := ∀ (x y z : AVal) (L : List Lot) (W : List Want) (U : List Use) (R S T : List (List AVal)) (turn : Int) (h : AHeap) (Q : AVal → AHeap → Prop), SlX h 6 x (L.map Lot.cs) R → SlX h 3 y (W.map Want.cs) S → SlX h 3 z (U.map Use.cs) T →
  L.length < 4611686018427387904 → W.length < 4611686018427387904 → U.length < 4611686018427387904 → Q (.bool true) h → C (N 231) [x, y, z, .int .i64 turn] h Q
/-- The wants are turned: as many are served. -/
theorem serves_mid (s3 : kit_Pick.Spec C N) (s4 : flow_Fits.Spec C N) {x y v9 : AVal} {L : List Lot} {W : List Want} {R S : List (List AVal)} {turn : Int} {h : AHeap} {Q : AVal → AHeap → Prop} (hx : SlX h 6 x (L.map Lot.cs) R) (hy : SlX h 3 y (W.map Want.cs) S) (hL : L.length ≤ 40) (hW : W.length ≤ 60)
    (hk : ∀ h', h.le h' → B.call C (N 221) [x, y] h' fun v85 h => B.pv (V.ext 0 v85) fun v86 => B.pv (V.ext 1 v85) fun v87 => law05_FlowServes.k7 C N Q x v9 (.bool (greedy L W).isSome) v86 v87 h) :
    law05_FlowServes.k10 C N Q x y (.int .i64 turn) v9 (.bool (greedy L W).isSome) h := by
  have e2 := hy.lenSl
  rw [List.length_map] at e2
  simp -dsimp only [law05_FlowServes.k10, e2, add1 (show W.length < 4611686018427387904 by omega), B.pv_some]
  refine s3 _ _ _ _ (by omega) (by omega) fun n h1 h2 => ?_
  obtain ⟨k, rfl⟩ : ∃ k : Nat, n = (k : Int) := ⟨n.toNat, by omega⟩
  have hkW : k ≤ W.length := by omega
  obtain ⟨a, Ra, ea, ha, _⟩ := hy.sliceIn (by omega) (a := some (.int .i64 (k : Int))) (b := none) (lo := k) (hi := W.length) (.inr ⟨_, rfl⟩) (.inl ⟨rfl, rfl⟩) hkW (Nat.le_refl _)
  obtain ⟨b, Rb, eb, hb, _⟩ := hy.sliceIn (by omega) (a := none) (b := some (.int .i64 (k : Int))) (lo := 0) (hi := k) (.inl ⟨rfl, rfl⟩) (.inr ⟨_, rfl⟩) (by omega) hkW
  rw [List.take_length] at ha
  simp only [List.drop_zero] at hb
  simp -dsimp only [law05_FlowServes.k9, ea, eb, B.pv_some]
  refine ((Owns.start h).sz 3).appW 0 rfl ha (by omega) (by simp; omega) (by simp [maxLen]; omega) fun p h1 o1 _ => ?_
  simp only [List.nil_append, List.set_cons_zero] at o1
  refine o1.appW 0 rfl (hb.mono o1.le) (by omega) (by simp; omega) (by simp [maxLen]; omega) fun q h2 o2 _ => ?_
  simp only [List.set_cons_zero, ← List.map_append] at o2
  simp -dsimp only [law05_FlowServes.k8]
  have hp : (W.drop k ++ W.take k).Perm W := by
    have := List.perm_append_comm (l₁ := W.drop k) (l₂ := W.take k)
    rwa [List.take_append_drop] at this
  refine s4 _ _ L (W.drop k ++ W.take k) _ _ _ _ (hx.mono o2.le) (o2.slAt 0 rfl) (by omega) (by simp; omega) ?_
  rw [greedy_perm hp]
  have en : ∀ b, V.eqBool .neq (.bool b) (.bool b) = some (.bool false) := fun b => by cases b <;> rfl
  simp -dsimp only [en, B.cond_false, B.pv_some]
  exact hk _ o2.le
theorem law05_FlowServes.spec (i : law05_FlowServes.Imp C N) (s1 : law05_awake.Spec C N) (s2 : law05_small.Spec C N) (s3 : kit_Pick.Spec C N) (s4 : flow_Fits.Spec C N) (s5 : flow_Fill.Spec C N) (s6 : flow_Check.Spec C N) (s7 : flow_Left.Spec C N) : law05_FlowServes.Spec C N := by
  intro x y z L W U R S T turn h Q hx hy hz hlen hlen2 hlen3 hq
  apply i
  have e3 := hz.lenSl
  rw [List.length_map] at e3
  simp -dsimp only [law05_FlowServes.cps]
  refine s1 _ _ ?_
  simp -dsimp only [law05_FlowServes.k13, V.un_not, Bool.not_true, B.cond_false, B.pv_some]
  refine s2 _ _ _ _ _ _ _ _ hx hy ?_
  simp +contextual -dsimp [e3]
  refine B.cond_bool (fun hb => dn_same hq) (fun hb => ?_)
  have hsm : L.length ≤ 40 ∧ W.length ≤ 60 ∧ U.length ≤ 200 := by
    simp only [small, Bool.or_eq_false_iff, Bool.not_eq_false', Bool.and_eq_true, decide_eq_true_eq, decide_eq_false_iff_not] at hb
    omega
  clear hb
  simp -dsimp only [law05_FlowServes.k12]
  refine s5 _ _ _ _ _ _ _ _ hx hy hlen hlen2 ⟨fun hn => ?_, fun us lf he hl h' x' o => ?_⟩
  · simp -dsimp only [V.ext_tup, List.getElem?_cons_zero, List.getElem?_cons_succ, law05_FlowServes.k11, B.pv_some]
    refine s6 _ _ _ _ _ _ _ _ _ _ _ hx hy hz hlen hlen2 hlen3 ?_
    have hc : checks L W U = false := by
      cases hc : checks L W U with
      | false => rfl
      | true => have := checks_greedy hc; rw [hn] at this; cases this
    rw [hc]
    simp -dsimp
    have e0 : (greedy L W).isSome = false := by rw [hn]; rfl
    have := serves_mid (turn := turn) (v9 := .nils) (Q := dn Q) s3 s4 hx hy hsm.1 hsm.2.1 (fun h' hle => ?_)
    · rw [e0] at this; simpa -dsimp using this
    · rw [e0]
      refine s7 _ _ _ _ _ _ _ _ (hx.mono hle) (hy.mono hle) hlen hlen2 ⟨fun _ => ?_, fun us lf h _ _ _ => by rw [hn] at h; cases h⟩
      simp -dsimp [V.eqBool]
      exact dn_le hle hq
  · have hck := greedy_checks he
    have hm := hck.1
    obtain ⟨f1, f2, f3, f4, f5⟩ := mayBe_facts hm
    have xo := o.slAt 0 rfl
    simp -dsimp only [V.ext_tup, List.getElem?_cons_zero, List.getElem?_cons_succ, law05_FlowServes.k11, B.pv_some]
    refine s6 _ _ _ _ _ _ _ _ _ _ _ (hx.mono o.le) (hy.mono o.le) (hz.mono o.le) hlen hlen2 hlen3 ?_
    have hbb : checks L W U = true ∨ checks L W U = false := by cases checks L W U <;> simp
    rcases hbb with hbb | hbb <;> rw [hbb] <;> simp -dsimp
    all_goals
      refine s6 _ _ _ _ _ _ _ _ _ _ _ (hx.mono o.le) (hy.mono o.le) xo hlen hlen2 (by omega) ?_
      rw [hck.2]
      simp -dsimp
      have e0 : (greedy L W).isSome = true := by rw [he]; rfl
      have := serves_mid (turn := turn) (v9 := x') (Q := dn Q) s3 s4 (hx.mono o.le) (hy.mono o.le) hsm.1 hsm.2.1 (fun h2 hle2 => ?_)
      · rw [e0] at this; simpa -dsimp using this
      · rw [e0]
        have hle := AHeap.le_trans o.le hle2
        refine s7 _ _ _ _ _ _ _ _ (hx.mono hle) (hy.mono hle) hlen hlen2 ⟨fun h => (by rw [he] at h; cases h), fun us2 lf2 h2 h3 x3 o3 => ?_⟩
        rw [he] at h2; cases h2
        obtain ⟨cur, r1, r2⟩ := (greedy_inv hm).1 us lf he
        have ok := chkRun_ok r1 (csStart_ok hm)
        have cs := chk_sum f4 r1
        have ls := leftLots_sum ok.left L
        have e4 : sumF (fun l => (csStart L W).left l.Id) L = sumF Lot.Qty L := sumF_congr fun l hl => by simp only [csStart]; exact left0_of f4 hl
        simp -dsimp [V.eqBool]
        refine serves_all (hx.mono (AHeap.le_trans hle o3.le)) f1 (o3.slAt 0 rfl) (Nat.le_trans (List.length_filterMap_le _ _) f1) (xo.mono (AHeap.le_trans hle2 o3.le)) hl (fun u hu => by have := cs.2 u hu; omega) ls.2 (fun l hl => by have := lotRight_facts (f3 l hl); omega) ?_ (dn_le (AHeap.le_trans hle o3.le) hq)
        rw [← e4, cs.1, ls.1]
end Go.Ab

/- What is proved: longer days, more lots, fewer wants never make it worse. No program in sight. No conditions. -/
set_option linter.unusedVariables false
set_option linter.unusedSimpArgs false
namespace Go.Ab
theorem sumF_set {α : Type} (f : α → Int) (b : α) : ∀ {L : List α} {j : Nat} (hj : j < L.length), sumF f (L.set j b) = sumF f L - f L[j] + f b
  | [], _, h => by simp at h
  | a :: L, 0, _ => by simp only [List.set_cons_zero, sumF, List.getElem_cons_zero]; omega
  | a :: L, j + 1, h => by
    simp only [List.set_cons_succ, sumF, List.getElem_cons_succ]
    rw [sumF_set f b (by simpa using h)]; omega
def longer (l : Lot) (a b : Int) : Lot := { l with From := max (l.From - b) 0, Until := min (l.Until + a) 4001 }
theorem longer_right {l : Lot} {a b : Int} (h : lotRight l = true) (ha : 0 ≤ a) (hb : 0 ≤ b) : lotRight (longer l a b) = true := by
  simp only [lotRight, Window.right, Bool.and_eq_true, decide_eq_true_eq] at *
  obtain ⟨⟨⟨⟨⟨h1, h2⟩, ⟨h3, h4⟩, h5⟩, h6⟩, h7⟩, h8⟩ := h
  simp only [longer]
  exact ⟨⟨⟨⟨⟨h1, h2⟩, ⟨by omega, by omega⟩, by omega⟩, by omega⟩, h7⟩, h8⟩
theorem longer_serves {l : Lot} {a b : Int} (h : lotRight l = true) (ha : 0 ≤ a) (hb : 0 ≤ b) {w : Want} (hs : serves l w = true) : serves (longer l a b) w = true := by
  rw [serves_iff] at *
  refine ⟨hs.1, ?_⟩
  have hr := longer_right (a := a) (b := b) h ha hb
  have h2 := hs.2
  simp only [lotRight, Window.has, Window.right, Bool.and_eq_true, decide_eq_true_eq] at *
  simp only [longer] at *
  refine ⟨⟨hr.1.1.1.2, by omega⟩, by omega⟩
theorem greedy_longer {L : List Lot} {W : List Want} {j : Nat} (hj : j < L.length) {a b : Int} (ha : 0 ≤ a) (hb : 0 ≤ b) (h : (greedy L W).isSome = true) : (greedy (L.set j (longer L[j] a b)) W).isSome = true := by
  have hm := greedy_may h
  have hh := (greedy_hallW hm).1 h
  obtain ⟨f1, f2, f3, f4, f5⟩ := mayBe_iff.1 hm
  have hr := f3 _ (List.getElem_mem hj)
  have hm' : mayBe (L.set j (longer L[j] a b)) W = true := by
    refine mayBe_iff.2 ⟨by simpa using f1, f2, fun l hl => ?_, ?_, f5⟩
    · rcases List.mem_or_eq_of_mem_set hl with hl | rfl
      · exact f3 l hl
      · exact longer_right hr ha hb
    · have : (L.set j (longer L[j] a b)).map Lot.Id = L.map Lot.Id := by
        rw [List.map_set]
        apply List.ext_getElem?
        intro i
        rw [List.getElem?_set]
        split
        · rename_i e; subst e; rw [if_pos (by simpa using hj), List.getElem?_map, List.getElem?_eq_getElem hj]; rfl
        · rfl
      rw [this]; exact f4
  refine (greedy_hallW hm').2 fun T => Int.le_trans (hh T) ?_
  unfold haveS
  rw [sumF_set _ _ hj]
  have hq := (lotRight_facts hr).2.1
  have hx : (bif W.any (fun w => T w && serves L[j] w) then L[j].Qty else 0) ≤ (bif W.any (fun w => T w && serves (longer L[j] a b) w) then (longer L[j] a b).Qty else 0) := by
    cases h1 : W.any fun w => T w && serves L[j] w with
    | false =>
      cases W.any fun w => T w && serves (longer L[j] a b) w
      · exact Int.le_refl _
      · simp [longer]; omega
    | true =>
      have : (W.any fun w => T w && serves (longer L[j] a b) w) = true := by
        rw [List.any_eq_true] at h1 ⊢
        obtain ⟨w, hw, hs⟩ := h1
        rw [Bool.and_eq_true] at hs
        exact ⟨w, hw, by rw [hs.1, longer_serves hr ha hb hs.2]; rfl⟩
      rw [this]; exact Int.le_refl _
  omega
theorem greedy_less {L : List Lot} {W : List Want} {k : Nat} (hk : k < W.length) (h : (greedy L W).isSome = true) : (greedy L (W.take k ++ W.drop (k + 1))).isSome = true := by
  have hp : W.Perm (W[k] :: (W.take k ++ W.drop (k + 1))) := by
    conv => lhs; rw [← List.take_append_drop k W, List.drop_eq_getElem_cons hk]
    exact List.perm_middle
  rw [greedy_perm hp] at h
  have hm := greedy_may h
  obtain ⟨f1, f2, f3, f4, f5⟩ := mayBe_iff.1 hm
  have hm' : mayBe L (W.take k ++ W.drop (k + 1)) = true := mayBe_iff.2 ⟨f1, by simp only [List.length_cons] at f2; omega, f3, f4, fun w hw => f5 w (List.mem_cons_of_mem _ hw)⟩
  have := wantRight_facts (f5 _ (List.mem_cons_self ..))
  exact (greedy_hallW hm').2 (((greedy_hallW hm).1 h).less (by omega))
theorem greedy_more {L : List Lot} {W : List Want} {m : Lot} (hc : checks (L ++ [m]) [] [] = true) (h : (greedy L W).isSome = true) : (greedy (L ++ [m]) W).isSome = true := by
  have hm := greedy_may h
  have hh := (greedy_hallW hm).1 h
  obtain ⟨f1, f2, f3, f4, f5⟩ := mayBe_iff.1 hm
  obtain ⟨g1, g2, g3, g4, g5⟩ := mayBe_iff.1 (checks_hall hc).1
  have hm' : mayBe (L ++ [m]) W = true := mayBe_iff.2 ⟨g1, f2, g3, g4, f5⟩
  refine (greedy_hallW hm').2 fun T => Int.le_trans (hh T) ?_
  unfold haveS
  rw [sumF_append]
  have hq := (lotRight_facts (g3 m (by simp))).2.1
  simp only [sumF]
  cases W.any fun w => T w && serves m w <;> simp <;> omega
end Go.Ab

/- What is proved: contract of the statement that more never makes it worse. No conditions. -/
set_option linter.unusedVariables false
set_option linter.unusedSimpArgs false
namespace Go.Ab
variable {C : CSem} {N : Nat → Nat}
theorem boxLot (l : Lot) : A.boxN 6 (.agg l.cs) = some (.agg l.cs) := by simp
theorem map_set_lot {L : List Lot} {j : Nat} {l : Lot} : (L.map Lot.cs).set j l.cs = (L.set j l).map Lot.cs := by rw [List.map_set]
def law05_FlowMore.Spec (C : CSem) (N : Nat → Nat) : Prop := ∀ (x y : AVal) (L : List Lot) (W : List Want) (R S : List (List AVal)) (m : Lot) (at_ long : Int) (h : AHeap) (Q : AVal → AHeap → Prop), SlX h 6 x (L.map Lot.cs) R → SlX h 3 y (W.map Want.cs) S →
  L.length < 4611686018427387904 → W.length < 4611686018427387904 → Q (.bool true) h → C (N 230) [x, y, .agg m.cs, .int .i64 at_, .int .i64 long] h Q
theorem law05_FlowMore.spec (i : law05_FlowMore.Imp C N) (s1 : law05_awake.Spec C N) (s2 : law05_small.Spec C N) (s3 : kit_Pick.Spec C N) (s4 : flow_Fits.Spec C N) (s5 : kit_CopyLots.Spec C N) (s6 : flow_Check.Spec C N) : law05_FlowMore.Spec C N := by
  intro x y L W R S m at_ long h Q hx hy hlen hlen2 hq
  apply i
  have e1 := hx.lenSl
  have e2 := hy.lenSl
  rw [List.length_map] at e1 e2
  simp -dsimp only [law05_FlowMore.cps, law05_FlowMore.k1, boxLot, B.pv_some]
  refine s1 _ _ ?_
  simp -dsimp only [V.un_not, Bool.not_true, B.cond_false, B.pv_some]
  refine s2 _ _ _ _ _ _ _ _ hx hy ?_
  simp +contextual -dsimp [e1, e2]
  refine B.gdb_call (fun _ _ hq => s4 _ _ _ _ _ _ _ _ hx hy hlen hlen2 hq) ?_
  simp +contextual -dsimp
  refine B.cond_bool (fun hb => dn_same hq) (fun hb => ?_)
  simp [small] at hb
  obtain ⟨⟨⟨⟨b1, b2⟩, b3⟩, b4⟩, b5⟩ := hb
  have hL0 : 0 < L.length := by cases L with | nil => exact absurd rfl b3 | cons a l => simp
  have hW0 : 0 < W.length := by cases W with | nil => exact absurd rfl b4 | cons a l => simp
  simp -dsimp only [e2, B.pv_some]
  refine s3 _ _ _ _ (by omega) (by omega) fun n n1 n2 => ?_
  obtain ⟨k, rfl⟩ : ∃ k : Nat, n = (k : Int) := ⟨n.toNat, by omega⟩
  have hkW : k < W.length := by omega
  obtain ⟨p, Rp, ep, hp, _⟩ := hy.sliceIn (by omega) (a := none) (b := some (.int .i64 (k : Int))) (lo := 0) (hi := k) (.inl ⟨rfl, rfl⟩) (.inr ⟨_, rfl⟩) (by omega) (by omega)
  obtain ⟨q, Rq, eq, hq', _⟩ := hy.sliceIn (by omega) (a := some (.int .i64 ((k + 1 : Nat) : Int))) (b := none) (lo := k + 1) (hi := W.length) (.inr ⟨_, rfl⟩) (.inl ⟨rfl, rfl⟩) (by omega) (Nat.le_refl _)
  rw [List.take_length] at hq'
  simp only [List.drop_zero] at hp
  simp -dsimp only [ep, add1 (show k < 4611686018427387904 by omega), eq, B.pv_some]
  refine ((Owns.start h).sz 3).appW 0 rfl hp (by omega) (by simp; omega) (by simp [maxLen]; omega) fun p' h1 o1 _ => ?_
  simp only [List.nil_append, List.set_cons_zero] at o1
  refine o1.appW 0 rfl (hq'.mono o1.le) (by omega) (by simp; omega) (by simp [maxLen]; omega) fun q' h2 o2 _ => ?_
  simp only [List.set_cons_zero, ← List.map_append] at o2
  refine s4 _ _ L (W.take k ++ W.drop (k + 1)) _ _ _ _ (hx.mono o2.le) (o2.slAt 0 rfl) hlen (by simp; omega) ?_
  rw [greedy_less hkW b5]
  simp -dsimp only [V.un_not, Bool.not_true, B.cond_false, B.pv_some]
  refine s5 _ _ _ _ _ (hx.mono o2.le) (by omega) fun z h3 o3 => ?_
  have hz := o3.slAt 0 rfl
  have ez := hz.lenSl
  rw [List.length_map] at ez
  simp -dsimp only [ez, B.pv_some]
  refine s3 _ _ _ _ (by omega) (by omega) fun n n1 n2 => ?_
  obtain ⟨j, rfl⟩ : ∃ j : Nat, n = (j : Int) := ⟨n.toNat, by omega⟩
  have hjL : j < L.length := by omega
  have hj : j < (L.map Lot.cs).length := by simpa using hjL
  have hgj : (L.map Lot.cs)[j]? = some (L[j]).cs := by rw [List.getElem?_map, List.getElem?_eq_getElem hjL]; rfl
  have ixj : V.idxS 6 z (.int .i64 (j : Int)) = some (elp 6 z j 0) := hz.idxN hj
  have a2 : V.fieldAddr 2 (elp 6 z j 0) = some (elp 6 z j 2) := by have := hz.fieldA hj 0 2; simpa using this
  have a3 : V.fieldAddr 1 (elp 6 z j 2) = some (elp 6 z j 3) := by have := hz.fieldA hj 2 1; simpa using this
  have a4 : V.fieldAddr 0 (elp 6 z j 2) = some (elp 6 z j 2) := by have := hz.fieldA hj 2 0; simpa using this
  have d3 : A.ldv h3 (elp 6 z j 3) = some (.int .i64 L[j].Until) := by have := hz.ldv (f := 3) hgj (by omega); simpa using this
  have hm := greedy_may b5
  have hr := (mayBe_facts hm).2.2.1 _ (List.getElem_mem hjL)
  have lr := lotRight_facts hr
  have wr := lr.2.2.2.2.1
  simp only [Window.right, Bool.and_eq_true, decide_eq_true_eq] at wr
  simp -dsimp only [ixj, a2, a3, B.ld_eq, d3, B.pv_some]
  refine s3 _ _ _ _ (by omega) (by omega) fun a a5 a6 => ?_
  refine keepS_same (fun q hq => by rw [List.mem_singleton.1 hq]; exact ⟨_, d3⟩) ?_
  simp -dsimp only [V.bin_add, V.min2_int, ixj, a2, a3, B.pv_some]
  rw [wrap_i64 (by omega) (by omega)]
  refine o3.st 0 rfl (i := j) (f := 3) hgj (by omega) rfl fun h4 o4 _ => ?_
  have ec : ((L[j]).cs.set 3 (.int .i64 (min (L[j].Until + a) 4001))) = Lot.cs { L[j] with Until := min (L[j].Until + a) 4001 } := rfl
  simp only [List.set_cons_zero, ec, map_set_lot] at o4
  have hz4 := o4.slAt 0 rfl
  have hgj4 : ((L.set j { L[j] with Until := min (L[j].Until + a) 4001 }).map Lot.cs)[j]? = some (Lot.cs { L[j] with Until := min (L[j].Until + a) 4001 }) := by rw [List.getElem?_map, List.getElem?_set_self hjL]; rfl
  have d2 : A.ldv h4 (elp 6 z j 2) = some (.int .i64 L[j].From) := by have := hz4.ldv (f := 2) hgj4 (by omega); simpa using this
  simp -dsimp only [ixj, a2, a4, B.ld_eq, d2, B.pv_some]
  refine s3 _ _ _ _ (by omega) (by omega) fun b b6 b7 => ?_
  refine keepS_same (fun q hq => by rw [List.mem_singleton.1 hq]; exact ⟨_, d2⟩) ?_
  simp -dsimp only [V.bin_sub, V.max2_int, ixj, a2, a4, B.pv_some]
  rw [wrap_i64 (by omega) (by omega)]
  refine o4.st 0 rfl (i := j) (f := 2) hgj4 (by omega) rfl fun h5 o5 _ => ?_
  have ec5 : (Lot.cs { L[j] with Until := min (L[j].Until + a) 4001 }).set 2 (.int .i64 (max (L[j].From - b) 0)) = Lot.cs (longer L[j] a b) := rfl
  simp only [List.set_cons_zero, ec5, map_set_lot, List.set_set] at o5
  have h25 := AHeap.le_trans o2.le o5.le
  have hlen5 : (L.set j (longer L[j] a b)).length = L.length := by simp
  refine s4 _ _ (L.set j (longer L[j] a b)) W _ _ _ _ (o5.slAt 0 rfl) (hy.mono h25) (by omega) hlen2 ?_
  have g5 := greedy_longer hjL (a := a) (b := b) (by omega) (by omega) b5
  rw [g5]
  simp -dsimp only [V.un_not, Bool.not_true, B.cond_false, getLot6, fillLot1, B.pv_some]
  refine o5.push 0 rfl (cs := Lot.cs m) rfl (by omega) (by simp; omega) (by simp [maxLen]; omega) fun z6 h6 o6 _ => ?_
  have e6 : (L.set j (longer L[j] a b)).map Lot.cs ++ [m.cs] = (L.set j (longer L[j] a b) ++ [m]).map Lot.cs := by simp
  simp only [List.set_cons_zero, e6] at o6
  have hy6 := hy.mono (AHeap.le_trans o2.le o6.le)
  refine s4 _ _ (L.set j (longer L[j] a b) ++ [m]) W _ _ _ _ (o6.slAt 0 rfl) hy6 (by simp; omega) hlen2 ?_
  simp +contextual -dsimp
  refine B.gdb_call (fun hf _ hq => s6 _ _ _ (L.set j (longer L[j] a b) ++ [m]) [] [] _ [] [] _ _ (o6.slAt 0 rfl) (SlX.nils _ _) (SlX.nils _ _) (by simp; omega) (by simp) (by simp) hq) ?_
  simp +contextual -dsimp
  have ef : ((greedy (L.set j (longer L[j] a b) ++ [m]) W).isSome || !checks (L.set j (longer L[j] a b) ++ [m]) [] []) = true := by
    cases hc : checks (L.set j (longer L[j] a b) ++ [m]) [] [] with
    | false => simp
    | true => rw [greedy_more hc g5]; rfl
  rw [ef]
  exact dn_le (AHeap.le_trans o2.le o6.le) hq
end Go.Ab

/- What is proved: contract of the statement that says why wants can't be served. No conditions. -/
set_option linter.unusedVariables false
set_option linter.unusedSimpArgs false
namespace Go.Ab
variable {C : CSem} {N : Nat → Nat}
/-! Sets of wants as numbers. -/
def bitOf (s i : Nat) : Bool := decide (s / 2 ^ i % 2 = 1)
theorem bitOf_zero (n : Nat) (b : Bool) : bitOf (2 * n + b.toNat) 0 = b := by
  unfold bitOf; cases b <;> simp <;> omega
theorem bitOf_succ (n : Nat) (b : Bool) (i : Nat) : bitOf (2 * n + b.toNat) (i + 1) = bitOf n i := by
  unfold bitOf
  have : (2 * n + b.toNat) / 2 ^ (i + 1) = n / 2 ^ i := by
    rw [Nat.pow_succ, Nat.mul_comm (2 ^ i) 2, ← Nat.div_div_eq_div_mul]
    congr 1
    cases b <;> simp <;> omega
  rw [this]
theorem bits_of (S : Nat → Bool) : ∀ n, ∃ c, c < 2 ^ n ∧ ∀ i < n, bitOf c i = S i
  | 0 => ⟨0, by simp, fun i hi => by omega⟩
  | n + 1 => by
    obtain ⟨c, h1, h2⟩ := bits_of (fun i => S (i + 1)) n
    refine ⟨2 * c + (S 0).toNat, ?_, fun i hi => ?_⟩
    · have : (S 0).toNat ≤ 1 := by cases S 0 <;> simp
      rw [Nat.pow_succ]; omega
    · cases i with
      | zero => exact bitOf_zero c (S 0)
      | succ i => rw [bitOf_succ]; exact h2 i (by omega)
theorem toU {n : Nat} (h : n ≤ 1000) : V.toInt .u64 (.int .i64 (n : Int)) = some (.int .u64 (n : Int)) := by
  rw [V.toInt_int, show IntKind.wrap .u64 (n : Int) = n from ?_]
  simp only [IntKind.wrap, IntKind.bits, IntKind.signed, Bool.false_and]
  rw [if_neg (by simp)]
  omega
theorem shlN {n : Nat} (h : n ≤ 9) : V.bin .shl (.int .i64 1) (.int .u64 (n : Int)) = some (.int .i64 ((2 ^ n : Nat) : Int)) := by
  have : n = 0 ∨ n = 1 ∨ n = 2 ∨ n = 3 ∨ n = 4 ∨ n = 5 ∨ n = 6 ∨ n = 7 ∨ n = 8 ∨ n = 9 := by omega
  rcases this with rfl | rfl | rfl | rfl | rfl | rfl | rfl | rfl | rfl | rfl <;> rfl
theorem shrN {s n : Nat} (h : n ≤ 9) : V.bin .shr (.int .i64 (s : Int)) (.int .u64 (n : Int)) = some (.int .i64 ((s / 2 ^ n : Nat) : Int)) := by
  have e : min n (IntKind.bits .i64) = n := Nat.min_eq_left (by simp [IntKind.bits]; omega)
  simp only [V.bin, V.shift, Int.toNat_natCast, e]
  rw [if_neg (by omega)]
  congr 2
  rw [Int.fdiv_eq_ediv_of_nonneg _ (by exact_mod_cast Nat.zero_le (2 ^ n))]
  simp
theorem remN2 {a : Nat} : V.bin .rem (.int .i64 (a : Int)) (.int .i64 2) = some (.int .i64 ((a % 2 : Nat) : Int)) := by
  rw [V.bin_rem _ _ _ (by omega)]; congr 2
theorem eqlBit {s i : Nat} : V.bin .eql (.int .i64 ((s / 2 ^ i % 2 : Nat) : Int)) (.int .i64 1) = some (.bool (bitOf s i)) := by
  rw [V.bin_eql]; congr 2
  unfold bitOf
  exact decide_eq_decide.2 (by omega)
theorem eqBit (s i : Nat) : decide (((s : Int) / 2 ^ i).tmod 2 = 1) = bitOf s i := by
  have : ((s : Int) / 2 ^ i).tmod 2 = ((s / 2 ^ i % 2 : Nat) : Int) := by
    rw [show (s : Int) / 2 ^ i = ((s / 2 ^ i : Nat) : Int) by simp]; rfl
  rw [this]
  unfold bitOf
  exact decide_eq_decide.2 (by omega)
theorem sumF_range_succ (f : Nat → Int) (i : Nat) : sumF f (List.range (i + 1)) = sumF f (List.range i) + f i := by rw [List.range_succ, sumF_append]; simp [sumF]
section
variable {h : AHeap} {Q : AVal → AHeap → Prop} {Y1 : List AVal → AHeap → Prop} {x y : AVal} {L : List Lot} {W : List Want} {R S : List (List AVal)} {s : Nat} {one : Bool} {need : Int}
def haveB (L : List Lot) (W : List Want) (s : Nat) : Int := sumF (fun l => bif nS W (bitOf s) l then l.Qty else 0) L
/-- How much all lots have that serve one of the wants. -/
theorem why_have (s1 : window_Has.Spec C N) (hx : SlX h 6 x (L.map Lot.cs) R) (hy : SlX h 3 y (W.map Want.cs) S) (hL : L.length ≤ 40) (hW : W.length ≤ 9) (hr : ∀ l ∈ L, lotRight l = true)
    (hq : (one && decide (haveB L W s < need)) = true → Q (.bool true) h) (hn : (one && decide (haveB L W s < need)) = false → ∀ v, V.bin .add (.int .i64 (s : Int)) (.int .i64 1) = some v → Y1 [v] h) (hs : s < 4611686018427387904) :
    LoopR (law05_FlowWhy.l6 C N Q Y1 x y (.int .i64 (s : Int)) (.bool one) (.int .i64 need)) [.int .i64 0, .int .i64 0] h := by
  have e1 := hx.lenSl
  have e2 := hy.lenSl
  rw [List.length_map] at e1 e2
  have gy : ∀ {i : Nat} (hi : i < W.length), (W.map Want.cs)[i]? = some (W[i]).cs := fun hi => by rw [List.getElem?_map, List.getElem?_eq_getElem hi]; rfl
  have iy : ∀ {i : Nat} (hi : i < W.length), V.idxS 3 y (.int .i64 (i : Int)) = some (elp 3 y i 0) := fun hi => hy.idxN (by simpa using hi)
  have fy : ∀ {i : Nat} (hi : i < W.length) (f : Nat), V.fieldAddr f (elp 3 y i 0) = some (elp 3 y i f) := fun {i} hi f => by have := hy.fieldA (i := i) (by simpa using hi) 0 f; simpa using this
  have ly0 : ∀ {i : Nat} (hi : i < W.length), A.ldv h (elp 3 y i 0) = some (.str W[i].Item) := fun {i} hi => by have := hy.ldv (i := i) (f := 0) (gy hi) (by omega); simpa using this
  have ly1 : ∀ {i : Nat} (hi : i < W.length), A.ldv h (elp 3 y i 1) = some (.int .i64 W[i].Day) := fun {i} hi => by have := hy.ldv (i := i) (f := 1) (gy hi) (by omega); simpa using this
  have hb : ∀ l ∈ L, 0 ≤ (bif nS W (bitOf s) l then l.Qty else 0) ∧ (bif nS W (bitOf s) l then l.Qty else 0) ≤ 1073741824 := fun l hl => by
    have := lotRight_facts (hr l hl)
    cases nS W (bitOf s) l <;> simp <;> omega
  have sb := sum_bound hb
  have sb2 : (1073741824 : Int) * L.length ≤ 1073741824 * 40 := Int.mul_le_mul_of_nonneg_left (by omega) (by omega)
  refine LoopR.intro (fun t vs hh => hh = h ∧ ∃ k : Nat, k + t = L.length ∧ vs = [.int .i64 (sumF (fun l => bif nS W (bitOf s) l then l.Qty else 0) (L.take k)), .int .i64 (k : Int)]) L.length ?_ ⟨rfl, 0, by omega, by simp [sumF]⟩
  rintro Y t vs hh ⟨rfl, k, hkt, rfl⟩ hY
  simp -dsimp only [law05_FlowWhy.l6, law05_FlowWhy.k5, e1, lssN, B.pv_some]
  refine B.cond_bool (fun hc => ?_) (fun hc => ?_) <;> simp only [decide_eq_true_eq, decide_eq_false_iff_not] at hc
  · have gx : (L.map Lot.cs)[k]? = some (L[k]).cs := by rw [List.getElem?_map, List.getElem?_eq_getElem hc]; rfl
    have kx : k < (L.map Lot.cs).length := by simpa using hc
    have ix : V.idxS 6 x (.int .i64 (k : Int)) = some (elp 6 x k 0) := hx.idxN kx
    have fx : ∀ f, V.fieldAddr f (elp 6 x k 0) = some (elp 6 x k f) := fun f => by have := hx.fieldA kx 0 f; simpa using this
    have lx1 : A.ldv hh (elp 6 x k 1) = some (.str L[k].Item) := by have := hx.ldv (f := 1) gx (by omega); simpa using this
    have lx4 : A.ldv hh (elp 6 x k 4) = some (.int .i64 L[k].Qty) := by have := hx.ldv (f := 4) gx (by omega); simpa using this
    have lx2 : A.ldnv hh (elp 6 x k 2) 2 = some (.agg [.int .i64 L[k].From, .int .i64 L[k].Until]) := by rw [hx.ldnv gx (by omega)]; rfl
    have p1 := sum_part (fun l hl => (hb l hl).1) k
    have p2 := sum_part (fun l hl => (hb l hl).1) (k + 1)
    have p3 := sum_take (f := fun l => bif nS W (bitOf s) l then l.Qty else 0) hc
    refine LoopR.intro (fun t vs h2 => h2 = hh ∧ ∃ i : Nat, i + t = W.length ∧ vs = [.bool ((List.range i).any fun j => bitOf s j && serves L[k] (wAt W j)), .int .i64 (i : Int)]) W.length ?_ ⟨rfl, 0, by omega, by simp⟩
    rintro Z u vs h2 ⟨rfl, i, hiu, rfl⟩ hZ
    simp -dsimp only [law05_FlowWhy.l4, law05_FlowWhy.k3, e2, lssN, B.pv_some]
    refine B.cond_bool (fun hd => ?_) (fun hd => ?_) <;> simp only [decide_eq_true_eq, decide_eq_false_iff_not] at hd
    · have hi9 : i ≤ 9 := by omega
      have nx : ((List.range (i + 1)).any fun j => bitOf s j && serves L[k] (wAt W j)) = (((List.range i).any fun j => bitOf s j && serves L[k] (wAt W j)) || (bitOf s i && (decide (L[k].Item = W[i].Item) && Window.has ⟨L[k].From, L[k].Until⟩ W[i].Day))) := by
        rw [List.range_succ, List.any_append]; simp [serves, wAt_get hd]
      have go : Z [.bool ((List.range (i + 1)).any fun j => bitOf s j && serves L[k] (wAt W j)), .int .i64 ((i + 1 : Nat) : Int)] h2 := hZ (W.length - (i + 1)) _ _ (by omega) ⟨rfl, i + 1, by omega, rfl⟩
      rw [nx] at go
      generalize ((List.range i).any fun j => bitOf s j && serves L[k] (wAt W j)) = b at go ⊢
      cases b with
      | true =>
        simp -dsimp [add1 (show i < 4611686018427387904 by omega)]
        simpa using go
      | false =>
        simp +contextual -dsimp [toU (show i ≤ 1000 by omega), shrN hi9, eqBit, ix, iy hd, fx, fy hd, lx1, lx2, ly0 hd, ly1 hd]
        refine B.gdb_call (fun _ _ hq => s1 _ _ _ _ _ hq) ?_
        simp +contextual -dsimp [add1 (show i < 4611686018427387904 by omega)]
        simpa [Bool.and_assoc] using go
    · have hiW : i = W.length := by omega
      subst hiW
      have en : ((List.range W.length).any fun j => bitOf s j && serves L[k] (wAt W j)) = nS W (bitOf s) L[k] := rfl
      have go : Y [.int .i64 (sumF (fun l => bif nS W (bitOf s) l then l.Qty else 0) (L.take (k + 1))), .int .i64 ((k + 1 : Nat) : Int)] h2 := hY (L.length - (k + 1)) _ _ (by omega) ⟨rfl, k + 1, by omega, rfl⟩
      rw [p3] at go
      simp -dsimp only [en, law05_FlowWhy.k2]
      refine B.cond_bool (fun hf => ?_) (fun hf => ?_)
      · have q1 := hb _ (List.getElem_mem hc)
        simp only [hf, cond_true] at go q1 p3
        simp -dsimp only [ix, fx, B.ld_eq, lx4, V.bin_add, add1 (show k < 4611686018427387904 by omega), B.pv_some]
        rw [wrap_i64 (by omega) (by omega)]
        exact go
      · simp only [hf, cond_false, Int.add_zero] at go
        simp -dsimp only [add1 (show k < 4611686018427387904 by omega), B.pv_some]
        exact go
  · rw [List.take_of_length_le (by omega), show sumF (fun l => bif nS W (bitOf s) l then l.Qty else 0) L = haveB L W s from rfl]
    simp +contextual -dsimp
    refine B.cond_bool (fun hf => hq (by simpa using hf)) (fun hf => ?_)
    have := hn (by simpa using hf)
    simp -dsimp only [add1 hs, B.pv_some]
    exact this _ (add1 hs)
/-- One set of wants. -/
theorem why_set (s1 : window_Has.Spec C N) (hx : SlX h 6 x (L.map Lot.cs) R) (hy : SlX h 3 y (W.map Want.cs) S) (hL : L.length ≤ 40) (hW : W.length ≤ 9) (hr : ∀ l ∈ L, lotRight l = true) (hw : ∀ w ∈ W, wantRight w = true) (hs : s < 4611686018427387904) (good : Bool) {it : List UInt8}
    (hgd : good = true → (∀ i < W.length, bitOf s i = true → (wAt W i).Item = it) ∧ haveB L W s < sumF (fun i => bif bitOf s i then (wAt W i).Qty else 0) (List.range W.length))
    (hq : Q (.bool true) h) (hn : good = false → ∀ v, V.bin .add (.int .i64 (s : Int)) (.int .i64 1) = some v → Y1 [v] h) :
    LoopR (law05_FlowWhy.l8 C N Q Y1 x y (.int .i64 (s : Int))) [.str [], .bool true, .int .i64 0, .int .i64 0] h := by
  have e2 := hy.lenSl
  rw [List.length_map] at e2
  have hb : ∀ i ∈ List.range W.length, 0 ≤ (bif bitOf s i then (wAt W i).Qty else 0) ∧ (bif bitOf s i then (wAt W i).Qty else 0) ≤ 1125899906842624 := fun i hi => by
    have := wantRight_facts (hw _ (wAt_in (List.mem_range.1 hi)))
    cases bitOf s i <;> simp <;> omega
  refine LoopR.intro (fun t vs hh => hh = h ∧ ∃ (i : Nat) (item : List UInt8) (one : Bool), i + t = W.length ∧ vs = [.str item, .bool one, .int .i64 (sumF (fun i => bif bitOf s i then (wAt W i).Qty else 0) (List.range i)), .int .i64 (i : Int)] ∧ (good = true → one = true ∧ (item = [] ∨ item = it))) W.length ?_ ⟨rfl, 0, [], true, by omega, by simp [sumF], fun _ => ⟨rfl, .inl rfl⟩⟩
  rintro Y t vs hh ⟨rfl, i, item, one, hit, rfl, hone⟩ hY
  simp -dsimp only [law05_FlowWhy.l8, law05_FlowWhy.k7, e2, lssN, B.pv_some]
  refine B.cond_bool (fun hc => ?_) (fun hc => ?_) <;> simp only [decide_eq_true_eq, decide_eq_false_iff_not] at hc
  · have gy : (W.map Want.cs)[i]? = some (W[i]).cs := by rw [List.getElem?_map, List.getElem?_eq_getElem hc]; rfl
    have ky : i < (W.map Want.cs).length := by simpa using hc
    have iy : V.idxS 3 y (.int .i64 (i : Int)) = some (elp 3 y i 0) := hy.idxN ky
    have fy : ∀ f, V.fieldAddr f (elp 3 y i 0) = some (elp 3 y i f) := fun f => by have := hy.fieldA ky 0 f; simpa using this
    have ly0 : A.ldv hh (elp 3 y i 0) = some (.str W[i].Item) := by have := hy.ldv (f := 0) gy (by omega); simpa using this
    have ly2 : A.ldv hh (elp 3 y i 2) = some (.int .i64 W[i].Qty) := by have := hy.ldv (f := 2) gy (by omega); simpa using this
    have p3 := sumF_range_succ (fun i => bif bitOf s i then (wAt W i).Qty else 0) i
    have sb1 := sum_bound (f := fun i => bif bitOf s i then (wAt W i).Qty else 0) (L := List.range i) (fun j hj => hb j (List.mem_range.2 (by have := List.mem_range.1 hj; omega)))
    have sb2 : (1125899906842624 : Int) * ((List.range i).length : Int) ≤ 1125899906842624 * 9 := Int.mul_le_mul_of_nonneg_left (by rw [List.length_range]; omega) (by omega)
    have hbi := hb i (List.mem_range.2 hc)
    have hi9 : i ≤ 9 := by omega
    have go : ∀ (item : List UInt8) (one : Bool), (good = true → one = true ∧ (item = [] ∨ item = it)) → Y [.str item, .bool one, .int .i64 (sumF (fun i => bif bitOf s i then (wAt W i).Qty else 0) (List.range (i + 1))), .int .i64 ((i + 1 : Nat) : Int)] hh := fun item one ho => hY (W.length - (i + 1)) _ _ (by omega) ⟨rfl, i + 1, item, one, by omega, rfl, ho⟩
    rw [p3] at go
    simp -dsimp only [toU (show i ≤ 1000 by omega), shrN hi9, remN2, eqlBit, B.pv_some]
    refine B.cond_bool (fun hf => ?_) (fun hf => ?_)
    · simp only [hf, cond_true, wAt_get hc] at go hbi
      simp +contextual -dsimp [iy, fy, ly0, ly2]
      rw [wrap_i64 (by omega) (by omega)]
      rw [wrap_i64 (n := (i : Int) + 1) (by omega) (by omega), show (i : Int) + 1 = ((i + 1 : Nat) : Int) by simp]
      refine go _ _ fun hg => ?_
      obtain ⟨o1, o2⟩ := hone hg
      have hit := (hgd hg).1 i hc hf
      rw [wAt_get hc] at hit
      refine ⟨?_, .inr hit⟩
      rw [o1]
      rcases o2 with rfl | rfl
      · simp
      · simp [hit]
    · simp only [hf, cond_false, Int.add_zero] at go
      simp -dsimp only [add1 (show i < 4611686018427387904 by omega), B.pv_some]
      exact go item one hone
  · have hiW : i = W.length := by omega
    subst hiW
    refine why_have s1 hx hy hL hW hr (fun _ => hq) (fun hf => hn ?_) hs
    cases hg : good with
    | false => rfl
    | true =>
      obtain ⟨o1, o2⟩ := hone hg
      have := (hgd hg).2
      rw [o1, decide_eq_true this] at hf
      cases hf
end
end Go.Ab

/- What is proved: contract of the statement that says why wants can't be served: joined. No conditions. -/
set_option linter.unusedVariables false
set_option linter.unusedSimpArgs false
namespace Go.Ab
variable {C : CSem} {N : Nat → Nat}
theorem why_code {L : List Lot} {W : List Want} (hm : mayBe L W = true) (h : greedy L W = none) : ∃ (c : Nat) (it : List UInt8), 1 ≤ c ∧ c < 2 ^ W.length ∧ (∀ i < W.length, bitOf c i = true → (wAt W i).Item = it) ∧ haveB L W c < sumF (fun i => bif bitOf c i then (wAt W i).Qty else 0) (List.range W.length) := by
  obtain ⟨S, ⟨p, hp, hSp, hS⟩, hlt⟩ := greedy_why hm h
  obtain ⟨c, h1, h2⟩ := bits_of S W.length
  obtain ⟨f1, f2, f3, f4, f5⟩ := mayBe_facts hm
  refine ⟨c, (wAt W p).Item, ?_, h1, fun i hi hb => (hS i (by rw [← h2 i hi]; exact hb)).2, ?_⟩
  · have := h2 p hp
    rw [hSp] at this
    rcases Nat.eq_zero_or_pos c with rfl | hc
    · simp [bitOf] at this
    · exact hc
  · have e1 : haveB L W c = leftS L W (csStart L W).left S := sumF_congr fun l hl => by
      have en : nS W (bitOf c) l = nS W S l := by
        rw [Bool.eq_iff_iff]
        unfold nS
        simp only [List.any_eq_true, List.mem_range, Bool.and_eq_true]
        constructor
        · rintro ⟨i, hi, hb, hs⟩; exact ⟨i, hi, by rw [← h2 i hi]; exact hb, hs⟩
        · rintro ⟨i, hi, hb, hs⟩; exact ⟨i, hi, by rw [h2 i hi]; exact hb, hs⟩
      simp only [en, csStart, left0_of f4 hl]
    have e2 : sumF (fun i => bif bitOf c i then (wAt W i).Qty else 0) (List.range W.length) = needS W (csStart L W).need S := sumF_congr fun i hi => by
      rw [h2 i (List.mem_range.1 hi)]; rfl
    rw [e1, e2]; exact hlt
def law05_FlowWhy.Spec (C : CSem) (N : Nat → Nat) : Prop := ∀ (x y : AVal) (L : List Lot) (W : List Want) (R S : List (List AVal)) (h : AHeap) (Q : AVal → AHeap → Prop), SlX h 6 x (L.map Lot.cs) R → SlX h 3 y (W.map Want.cs) S →
  L.length < 4611686018427387904 → W.length < 4611686018427387904 → Q (.bool true) h → C (N 228) [x, y] h Q
theorem law05_FlowWhy.spec (i : law05_FlowWhy.Imp C N) (s1 : law05_awake.Spec C N) (s2 : law05_small.Spec C N) (s3 : window_Has.Spec C N) (s4 : flow_Fits.Spec C N) (s6 : flow_Check.Spec C N) : law05_FlowWhy.Spec C N := by
  intro x y L W R S h Q hx hy hlen hlen2 hq
  apply i
  have e1 := hx.lenSl
  have e2 := hy.lenSl
  rw [List.length_map] at e1 e2
  simp -dsimp only [law05_FlowWhy.cps]
  refine s1 _ _ ?_
  simp -dsimp only [law05_FlowWhy.k13, V.un_not, Bool.not_true, B.cond_false, B.pv_some]
  refine s2 _ _ _ _ _ _ _ _ hx hy ?_
  simp +contextual -dsimp [e1, e2]
  refine B.gdb_call (fun hf _ hq => s6 _ _ _ L [] [] _ [] [] _ _ hx (SlX.nils _ _) (SlX.nils _ _) hlen (by simp) (by simp) hq) ?_
  simp +contextual -dsimp
  refine B.gdb_call (fun _ _ hq => s4 _ _ _ _ _ _ _ _ hx hy hlen hlen2 hq) ?_
  simp +contextual -dsimp
  refine B.cond_bool (fun hb => dn_same hq) (fun hb => ?_)
  simp [small] at hb
  obtain ⟨⟨⟨⟨b1, b2⟩, b3⟩, b4⟩, b5⟩ := hb
  have hmL := mayBe_facts (checks_hall b4).1
  refine LoopR.intro (fun t vs hh => h.le hh ∧ ∃ k : Nat, k + t = W.length ∧ vs = [.int .i64 (k : Int)] ∧ ∀ w ∈ W.take k, wantRight w = true) W.length ?_ ⟨AHeap.le_refl h, 0, by omega, rfl, by simp⟩
  rintro Y t vs hh ⟨hle, k, hkt, rfl, hw⟩ hY
  simp -dsimp only [law05_FlowWhy.l12, law05_FlowWhy.k11, e2, lssN, B.pv_some]
  refine B.cond_bool (fun hc => ?_) (fun hc => ?_) <;> simp only [decide_eq_true_eq, decide_eq_false_iff_not] at hc
  · have hyy := hy.mono hle
    have gy : (W.map Want.cs)[k]? = some (W[k]).cs := by rw [List.getElem?_map, List.getElem?_eq_getElem hc]; rfl
    have ky : k < (W.map Want.cs).length := by simpa using hc
    have iy : V.idxS 3 y (.int .i64 (k : Int)) = some (elp 3 y k 0) := hy.idxN ky
    have fy : ∀ f, V.fieldAddr f (elp 3 y k 0) = some (elp 3 y k f) := fun f => by have := hy.fieldA ky 0 f; simpa using this
    have ly0 : A.ldv hh (elp 3 y k 0) = some (.str W[k].Item) := by have := hyy.ldv (f := 0) gy (by omega); simpa using this
    have ly1 : A.ldv hh (elp 3 y k 1) = some (.int .i64 W[k].Day) := by have := hyy.ldv (f := 1) gy (by omega); simpa using this
    simp -dsimp [iy, fy, ly0, ly1, A.bld, repL]
    obtain ⟨d1, hd1⟩ : ∃ d, d = IntKind.i64.wrap (W[k].Day + 1) := ⟨_, rfl⟩
    rw [← hd1]
    refine litP (es := 6) (n := 1) ([⟨1, W[k].Item, W[k].Day, d1, 1, false⟩].map Lot.cs) rfl (by simp) rfl fun i1 h1 o1 => ?_
    refine litP (es := 3) (n := 1) ([⟨W[k].Item, W[k].Day, 1⟩].map Want.cs) rfl (by simp) rfl fun i2 h2 o2 => ?_
    have hl2 := AHeap.le_trans o1.le o2.le
    have hy2 := hyy.mono hl2
    have ly2 : A.ldv h2 (elp 3 y k 2) = some (.int .i64 W[k].Qty) := by have := hy2.ldv (f := 2) gy (by omega); simpa using this
    refine s4 _ _ [⟨1, W[k].Item, W[k].Day, d1, 1, false⟩] [⟨W[k].Item, W[k].Day, 1⟩] _ _ _ _ ((o1.slAt 0 rfl).mono o2.le) (o2.slAt 0 rfl) (by simp) (by simp) ?_
    simp +contextual -dsimp [iy, fy, ly2]
    refine B.cond_bool (fun hf => dn_le (AHeap.le_trans hle hl2) hq) (fun hf => ?_)
    simp at hf
    simp -dsimp only [add1 (show k < 4611686018427387904 by omega), B.pv_some]
    refine hY (W.length - (k + 1)) _ _ (by omega) ⟨AHeap.le_trans hle hl2, k + 1, by omega, rfl, fun w hw' => ?_⟩
    rw [take_one hc] at hw'
    rcases List.mem_append.1 hw' with hw' | hw'
    · exact hw w hw'
    · rw [List.mem_singleton.1 hw']
      have r1 := (mayBe_facts (greedy_may hf.1.1)).2.2.2.2 _ (List.mem_cons_self ..)
      simp only [wantRight, Bool.and_eq_true, decide_eq_true_eq] at r1 ⊢
      exact ⟨⟨r1.1.1, by omega⟩, by omega⟩
  · rw [List.take_of_length_le (by omega)] at hw
    have hm : mayBe L W = true := mayBe_iff.2 ⟨hmL.1, by omega, hmL.2.2.1, hmL.2.2.2.1, hw⟩
    have hgn : greedy L W = none := by
      cases hg : greedy L W with
      | none => rfl
      | some v => rw [hg] at b5; simp at b5
    obtain ⟨c, it, c1, c2, c3, c4⟩ := why_code hm hgn
    have c512 : c < 512 := Nat.lt_of_lt_of_le c2 (Nat.le_trans (Nat.pow_le_pow_right (by omega) (show W.length ≤ 9 by omega)) (by decide))
    clear hY
    refine LoopR.intro (fun t vs h2 => h2 = hh ∧ ∃ s : Nat, s + t = c ∧ vs = [.int .i64 (s : Int)]) (c - 1) ?_ ⟨rfl, 1, by omega, rfl⟩
    rintro Z u vs h2 ⟨rfl, s, hsu, rfl⟩ hZ
    simp -dsimp only [law05_FlowWhy.l10, law05_FlowWhy.k9, e2, toU (show W.length ≤ 1000 by omega), shlN (show W.length ≤ 9 by omega), lssN, B.pv_some]
    refine B.cond_bool (fun hd => ?_) (fun hd => ?_) <;> simp only [decide_eq_true_eq, decide_eq_false_iff_not] at hd
    · refine why_set s3 (hx.mono hle) (hy.mono hle) b1 (by omega) hmL.2.2.1 hw (by omega) (decide (s = c)) (it := it) (fun hg => ?_) (dn_le hle hq) (fun hg v hv => ?_)
      · have := of_decide_eq_true hg
        subst this
        exact ⟨c3, c4⟩
      · have hne := of_decide_eq_false hg
        rw [add1 (show s < 4611686018427387904 by omega)] at hv
        cases hv
        exact hZ (c - (s + 1)) _ _ (by omega) ⟨rfl, s + 1, by omega, rfl⟩
    · omega
end Go.Ab

/- What is proved: contract of the document's answer: do uses serve wants? No conditions. -/
set_option linter.unusedVariables false
set_option linter.unusedSimpArgs false
namespace Go.Ab
variable {C : CSem} {N : Nat → Nat}
/-- Numbers by place. -/
def ints (n : Nat) (f : Nat → Int) : List (List AVal) := fills n fun j => [.int .i64 (f j)]
@[simp] theorem ints_len (n : Nat) (f : Nat → Int) : (ints n f).length = n := fills_len ..
theorem ints_get {n k : Nat} (f : Nat → Int) (h : k < n) : (ints n f)[k]? = some [.int .i64 (f k)] := fills_get _ h
theorem ints_congr {n : Nat} {f g : Nat → Int} (h : ∀ j, j < n → f j = g j) : ints n f = ints n g := fills_congr fun j hj => by rw [h j hj]
theorem ints_set {n k : Nat} (f : Nat → Int) (v : Int) : (ints n f).set k [.int .i64 v] = ints n fun j => if j = k then v else f j := by
  unfold ints
  rw [fills_set]
  exact fills_congr fun j _ => by by_cases e : j = k <;> simp [e]
theorem ints_step (n k : Nat) (f : Nat → Int) : ints n (fun j => if j < k + 1 then f j else 0) = ints n fun j => if j = k then f k else if j < k then f j else 0 := ints_congr fun j _ => by
  by_cases e : j = k
  · subst e; simp
  · rw [if_neg e]
    by_cases e2 : j < k
    · rw [if_pos e2, if_pos (by omega)]
    · rw [if_neg e2, if_neg (by omega)]
theorem SlX.intAt {h : AHeap} {x : AVal} {n k : Nat} {f : Nat → Int} {R : List (List AVal)} (hs : SlX h 1 x (ints n f) R) (hk : k < n) : V.idxS 1 x (.int .i64 (k : Int)) = some (elp 1 x k 0) ∧ A.ldv h (elp 1 x k 0) = some (.int .i64 (f k)) :=
  ⟨hs.idxN (by simpa using hk), hs.cell (ints_get f hk)⟩
structure LotsAt (h : AHeap) (x : AVal) (L : List Lot) (k : Nat) : Prop where
  ix : V.idxS 6 x (.int .i64 (k : Int)) = some (elp 6 x k 0)
  fa : ∀ f, V.fieldAddr f (elp 6 x k 0) = some (elp 6 x k f)
  el : ∀ l, L[k]? = some l → A.ldnv h (elp 6 x k 0) 6 = some (.agg l.cs)
  id : ∀ l, L[k]? = some l → A.ldv h (elp 6 x k 0) = some (.int .i64 l.Id)
  qty : ∀ l, L[k]? = some l → A.ldv h (elp 6 x k 4) = some (.int .i64 l.Qty)
theorem SlX.lotAt {h : AHeap} {x : AVal} {L : List Lot} {R : List (List AVal)} (hx : SlX h 6 x (L.map Lot.cs) R) {k : Nat} (hk : k < L.length) : LotsAt h x L k := by
  have g : (L.map Lot.cs)[k]? = some (L[k]).cs := by rw [List.getElem?_map, List.getElem?_eq_getElem hk]; rfl
  have kk : k < (L.map Lot.cs).length := by simpa using hk
  refine ⟨hx.idxN kk, fun f => ?_, fun l hl => ?_, fun l hl => ?_, fun l hl => ?_⟩
  · have := hx.fieldA kk 0 f; simpa using this
  all_goals rw [List.getElem?_eq_getElem hk] at hl; cases hl
  · exact hx.elem g
  · have := hx.ldv (f := 0) g (by omega); simpa using this
  · have := hx.ldv (f := 4) g (by omega); simpa using this
structure WantsAt (h : AHeap) (y : AVal) (W : List Want) (k : Nat) : Prop where
  ix : V.idxS 3 y (.int .i64 (k : Int)) = some (elp 3 y k 0)
  fa : ∀ f, V.fieldAddr f (elp 3 y k 0) = some (elp 3 y k f)
  el : A.ldnv h (elp 3 y k 0) 3 = some (.agg (wAt W k).cs)
  item : A.ldv h (elp 3 y k 0) = some (.str (wAt W k).Item)
  day : A.ldv h (elp 3 y k 1) = some (.int .i64 (wAt W k).Day)
  qty : A.ldv h (elp 3 y k 2) = some (.int .i64 (wAt W k).Qty)
theorem SlX.wantAt {h : AHeap} {y : AVal} {W : List Want} {R : List (List AVal)} (hy : SlX h 3 y (W.map Want.cs) R) {k : Nat} (hk : k < W.length) : WantsAt h y W k := by
  have g : (W.map Want.cs)[k]? = some (wAt W k).cs := by rw [List.getElem?_map, List.getElem?_eq_getElem hk, wAt_get hk]; rfl
  have kk : k < (W.map Want.cs).length := by simpa using hk
  refine ⟨hy.idxN kk, fun f => ?_, hy.elem g, ?_, ?_, ?_⟩
  · have := hy.fieldA kk 0 f; simpa using this
  · have := hy.ldv (f := 0) g (by omega); simpa using this
  · have := hy.ldv (f := 1) g (by omega); simpa using this
  · have := hy.ldv (f := 2) g (by omega); simpa using this
def lAt (L : List Lot) (k : Nat) : Lot := L.getD k ⟨0, [], 0, 0, 0, false⟩
theorem lAt_get {L : List Lot} {k : Nat} (h : k < L.length) : lAt L k = L[k] := by simp [lAt, h]
theorem lAt_some {L : List Lot} {k : Nat} (h : k < L.length) : L[k]? = some (lAt L k) := by rw [lAt_get h, List.getElem?_eq_getElem h]
theorem lAt_mem {L : List Lot} {k : Nat} (h : k < L.length) : lAt L k ∈ L := by rw [lAt_get h]; exact List.getElem_mem h
theorem lotById_at {L : List Lot} (hn : (L.map Lot.Id).Nodup) {k : Nat} (h : k < L.length) {n : Int} (e : (lAt L k).Id = n) : lotById L n = some (lAt L k) := by subst e; exact lotById_of hn (lAt_mem h)
theorem lAt_inj {L : List Lot} (hn : (L.map Lot.Id).Nodup) {i j : Nat} (hi : i < L.length) (hj : j < L.length) (e : (lAt L i).Id = (lAt L j).Id) : i = j := by
  rw [lAt_get hi, lAt_get hj] at e
  exact nodup_inj hn (by simpa using hi) (by simpa using hj) (by simpa using e)
def ref05_Check.Spec (C : CSem) (N : Nat → Nat) : Prop := ∀ (x y z : AVal) (L : List Lot) (W : List Want) (U : List Use) (R S T : List (List AVal)) (h : AHeap) (Q : AVal → AHeap → Prop), SlX h 6 x (L.map Lot.cs) R → SlX h 3 y (W.map Want.cs) S → SlX h 3 z (U.map Use.cs) T →
  L.length < 4611686018427387904 → W.length < 4611686018427387904 → U.length < 4611686018427387904 → Q (.bool (checks L W U)) h → C (N 226) [x, y, z] h Q
section
variable {h0 h : AHeap} {L : List Lot} {W : List Want} {U : List Use} {Q : AVal → AHeap → Prop} {x y z nd lf : AVal} {R S T : List (List AVal)}
/-- One use. -/
theorem rcheck_one {Y2 : List AVal → AHeap → Prop} (s1 : ref05_Serves.Spec C N) (hx : SlX h0 6 x (L.map Lot.cs) R) (hy : SlX h0 3 y (W.map Want.cs) S) (hL : L.length ≤ 300) (hW : W.length ≤ 20000) (hn : (L.map Lot.Id).Nodup) {s : CS} {u : Use} (hok : CSOk s) (hsm : CSm s) {n : Nat} (hnn : n < 4611686018427387904)
    (o : Owns h0 h [.sl 1 nd (ints W.length s.need) [], .sl 1 lf (ints L.length fun k => s.left (lAt L k).Id) []])
    (no : (∀ l, lotById L u.Lot = some l → ¬ ChkF W s u l) → Q (.bool false) h)
    (yes : ∀ l h', lotById L u.Lot = some l → ChkF W s u l → Owns h0 h' [.sl 1 nd (ints W.length (chkStep s u).need) [], .sl 1 lf (ints L.length fun k => (chkStep s u).left (lAt L k).Id) []] → Y2 [.int .i64 ((n + 1 : Nat) : Int)] h') :
    LoopR (ref05_Check.l5 C N Q Y2 x y z nd lf (.int .i64 (n : Int)) (.agg u.cs)) [.int .i64 (-1), .int .i64 0] h := by
  have e1 := hx.lenSl
  have e2 := hy.lenSl
  rw [List.length_map] at e1 e2
  have hxx := hx.mono o.le
  have hyy := hy.mono o.le
  refine LoopR.intro (fun t vs hh => hh = h ∧ ∃ (j : Nat) (k : Int), j + t = L.length ∧ vs = [.int .i64 k, .int .i64 (j : Int)] ∧ ((k = -1 ∧ ∀ i < j, (lAt L i).Id ≠ u.Lot) ∨ ∃ m : Nat, k = m ∧ m < L.length ∧ (lAt L m).Id = u.Lot)) L.length ?_ ⟨rfl, 0, -1, by omega, rfl, .inl ⟨rfl, fun i hi => by omega⟩⟩
  rintro Z t vs hh ⟨rfl, j, k, hjt, rfl, hk⟩ hZ
  simp -dsimp only [ref05_Check.l5, ref05_Check.k4, e1, lssN, B.pv_some]
  refine B.cond_bool (fun hc => ?_) (fun hc => ?_) <;> simp only [decide_eq_true_eq, decide_eq_false_iff_not] at hc
  · have a := hxx.lotAt hc
    have a0 := a.fa 0
    simp -dsimp only [a.ix, a0, B.ld_eq, a.id _ (lAt_some hc), useLot, V.bin_eql, B.al_agg, B.pv_some]
    refine B.cond_bool (fun hd => ?_) (fun hd => ?_) <;> simp only [decide_eq_true_eq, decide_eq_false_iff_not] at hd <;> simp -dsimp only [add1 (show j < 4611686018427387904 by omega), B.pv_some]
    · exact hZ (L.length - (j + 1)) _ _ (by omega) ⟨rfl, j + 1, j, by omega, rfl, .inr ⟨j, rfl, hc, hd⟩⟩
    · refine hZ (L.length - (j + 1)) _ _ (by omega) ⟨rfl, j + 1, k, by omega, rfl, ?_⟩
      rcases hk with ⟨h1, h2⟩ | hk
      · refine .inl ⟨h1, fun i hi => ?_⟩
        by_cases e : i = j
        · subst e; exact hd
        · exact h2 i (by omega)
      · exact .inr hk
  · rcases hk with ⟨rfl, hno⟩ | ⟨m, rfl, hm, hid⟩
    · simp +contextual -dsimp
      refine no fun l hl => ?_
      obtain ⟨h1, h2⟩ := lotById_some hl
      obtain ⟨i, hi, rfl⟩ := List.getElem_of_mem h1
      have := hno i (by omega)
      rw [lAt_get hi] at this
      exact absurd h2 this
    · have hl := lotById_at hn hm hid
      have a := hxx.lotAt hm
      have ael := a.el _ (lAt_some hm)
      have hno : (¬ ChkF W s u (lAt L m)) → Q (.bool false) hh := fun hx => no fun l hl2 => by rw [hl] at hl2; cases hl2; exact hx
      rcases Int.lt_or_le u.Want 0 with hw | hw
      · simp +contextual -dsimp [hw]
        exact hno fun hf => by have := hf.w0; omega
      rcases Int.lt_or_le u.Want W.length with hw2 | hw2
      · obtain ⟨i, hi⟩ : ∃ i : Nat, u.Want = (i : Int) := ⟨u.Want.toNat, by omega⟩
        have hiW : i < W.length := by omega
        have ti : u.Want.toNat = i := by omega
        have b := hyy.wantAt hiW
        obtain ⟨c1, c2⟩ := (o.slAt 0 rfl).intAt hiW
        obtain ⟨d1, d2⟩ := (o.slAt 1 rfl).intAt hm
        simp +contextual -dsimp [hi, e2, a.ix, ael, b.ix, b.el, c1, c2, d1, d2]
        refine B.gdb_call (fun _ _ hq => s1 _ _ _ _ hq) ?_
        simp +contextual -dsimp [hi, d1, d2, c1, c2]
        refine B.cond_bool (fun hf => ?_) (fun hf => ?_)
        · refine hno fun hF => ?_
          have f1 := hF.q; have f2 := hF.ql; have f3 := hF.qn; have f4 := hF.sv
          rw [ti] at f3 f4
          simp [f4] at hf
          omega
        · have hF : ChkF W s u (lAt L m) := by
            simp at hf
            refine ⟨by omega, by omega, by omega, by omega, by rw [ti]; omega, by rw [ti]; exact hf.1.1.2⟩
          have f1 := hF.q; have f2 := hF.ql; have f3 := hF.qn
          rw [ti] at f3
          have g1 := hsm.left (lAt L m).Id
          have g2 := hsm.need i
          simp -dsimp only [d1, d2, B.ld_eq, useQty, V.bin_sub, B.al_agg, B.pv_some]
          rw [wrap_i64 (n := s.left (lAt L m).Id - u.Qty) (by omega) (by omega)]
          refine o.st 1 rfl (i := m) (f := 0) (ints_get _ hm) (by omega) rfl fun h2 o2 _ => ?_
          have es1 : ∀ (a b : AVal), ([a].set 0 b) = [b] := fun _ _ => rfl
          simp only [List.set_cons_zero, List.set_cons_succ, es1, ints_set] at o2
          obtain ⟨c3, c4⟩ := (o2.slAt 0 rfl).intAt hiW
          simp -dsimp only [useWant, hi, c1, c4, B.ld_eq, useQty, V.bin_sub, B.al_agg, B.pv_some]
          rw [wrap_i64 (n := s.need i - u.Qty) (by omega) (by omega)]
          refine o2.st 0 rfl (i := i) (f := 0) (ints_get _ hiW) (by omega) rfl fun h3 o3 _ => ?_
          simp only [List.set_cons_zero, List.set_cons_succ, es1, ints_set] at o3
          simp -dsimp only [add1 hnn, B.pv_some]
          refine yes _ _ hl hF ?_
          have q1 : ints W.length (chkStep s u).need = ints W.length fun j => if j = i then s.need i - u.Qty else s.need j := ints_congr fun j _ => by
            simp only [chkStep, ti]
            split
            · rename_i e; rw [e]
            · rfl
          have q2 : (ints L.length fun k => (chkStep s u).left (lAt L k).Id) = ints L.length fun j => if j = m then s.left (lAt L m).Id - u.Qty else s.left (lAt L j).Id := ints_congr fun j hj => by
            simp only [chkStep]
            by_cases e : j = m
            · subst e; rw [if_pos hid, if_pos rfl]
            · rw [if_neg e, if_neg]
              intro e2
              exact e (lAt_inj hn hj hm (by rw [e2, hid]))
          rw [q1, q2]; exact o3
      · simp +contextual -dsimp [e2, hw2, show ¬ u.Want < 0 by omega]
        exact hno fun hf => by have := hf.w1; omega
end
theorem ref05_Check.spec (i : ref05_Check.Imp C N) (s1 : ref05_May.Spec C N) (s2 : ref05_Serves.Spec C N) : ref05_Check.Spec C N := by
  intro x y z L W U R S T h Q hx hy hz hlen hlen2 hlen3 hq
  apply i
  have e1 := hx.lenSl
  have e2 := hy.lenSl
  have e3 := hz.lenSl
  rw [List.length_map] at e1 e2 e3
  simp -dsimp only [ref05_Check.cps, ref05_Check.k13]
  refine s1 _ _ _ _ _ _ _ _ hx hy hlen hlen2 ?_
  simp -dsimp only [V.un_not, B.pv_some]
  cases hm : mayBe L W with
  | false =>
    simp -dsimp only [Bool.not_false, B.cond_true]
    have e : checks L W U = false := by unfold checks; rw [hm]; rfl
    rw [e] at hq
    exact dn_same hq
  | true =>
    obtain ⟨f1, f2, f3, f4, f5⟩ := mayBe_facts hm
    have es1 : ∀ (a b : AVal), ([a].set 0 b) = [b] := fun _ _ => rfl
    simp -dsimp only [Bool.not_true, B.cond_false, e2, B.pv_some]
    refine ⟨by omega, ?_⟩
    refine (Owns.start h).mks (bytes := 8) (es := 1) rfl (by omega) (by omega) (by omega) (by omega) fun nd h1 o1 => ?_
    have t2 : (W.length : Int).toNat = W.length := by omega
    have t1 : (L.length : Int).toNat = L.length := by omega
    simp only [List.nil_append, t2] at o1
    refine LoopR.intro (fun t vs hh => ∃ k : Nat, k + t = W.length ∧ vs = [.int .i64 (k : Int)] ∧ Owns h hh [.sl 1 nd (ints W.length fun j => if j < k then (wAt W j).Qty else 0) []]) W.length ?_ ⟨0, by omega, rfl, by simpa [ints] using o1⟩
    rintro Y t vs hh ⟨k, hkt, rfl, o⟩ hY
    simp -dsimp only [ref05_Check.l12, ref05_Check.k11, e2, lssN, B.pv_some]
    refine B.cond_bool (fun hc => ?_) (fun hc => ?_) <;> simp only [decide_eq_true_eq, decide_eq_false_iff_not] at hc
    · have b := (hy.mono o.le).wantAt hc
      obtain ⟨c1, c2⟩ := (o.slAt 0 rfl).intAt hc
      simp -dsimp only [b.ix, b.fa, B.ld_eq, b.qty, c1, B.pv_some]
      refine o.st 0 rfl (i := k) (f := 0) (ints_get _ hc) (by omega) rfl fun h2 o2 _ => ?_
      simp only [List.set_cons_zero, es1, ints_set] at o2
      simp -dsimp only [add1 (show k < 4611686018427387904 by omega), B.pv_some]
      refine hY (W.length - (k + 1)) _ _ (by omega) ⟨k + 1, by omega, rfl, ?_⟩
      rw [ints_step W.length k fun j => (wAt W j).Qty]; exact o2
    · have o : Owns h hh [.sl 1 nd (ints W.length (csStart L W).need) []] := by
        rw [ints_congr (g := (csStart L W).need) fun j hj => by rw [if_pos (by omega)]; rfl] at o; exact o
      simp -dsimp only [e1, B.pv_some]
      refine ⟨by omega, ?_⟩
      refine o.mks (bytes := 8) (es := 1) rfl (by omega) (by omega) (by omega) (by omega) fun lf h3 o3 => ?_
      simp only [List.cons_append, List.nil_append, t1] at o3
      clear hY
      refine LoopR.intro (fun t vs hh => ∃ k : Nat, k + t = L.length ∧ vs = [.int .i64 (k : Int)] ∧ Owns h hh [.sl 1 nd (ints W.length (csStart L W).need) [], .sl 1 lf (ints L.length fun j => if j < k then (lAt L j).Qty else 0) []]) L.length ?_ ⟨0, by omega, rfl, by simpa [ints] using o3⟩
      rintro Y t vs hh ⟨k, hkt, rfl, o⟩ hY
      simp -dsimp only [ref05_Check.l10, ref05_Check.k9, e1, lssN, B.pv_some]
      refine B.cond_bool (fun hc => ?_) (fun hc => ?_) <;> simp only [decide_eq_true_eq, decide_eq_false_iff_not] at hc
      · have b := (hx.mono o.le).lotAt hc
        obtain ⟨c1, c2⟩ := (o.slAt 1 rfl).intAt hc
        simp -dsimp only [b.ix, b.fa, B.ld_eq, b.qty _ (lAt_some hc), c1, B.pv_some]
        refine o.st 1 rfl (i := k) (f := 0) (ints_get _ hc) (by omega) rfl fun h2 o2 _ => ?_
        simp only [List.set_cons_zero, List.set_cons_succ, es1, ints_set] at o2
        simp -dsimp only [add1 (show k < 4611686018427387904 by omega), B.pv_some]
        refine hY (L.length - (k + 1)) _ _ (by omega) ⟨k + 1, by omega, rfl, ?_⟩
        rw [ints_step L.length k fun j => (lAt L j).Qty]; exact o2
      · have o : Owns h hh [.sl 1 nd (ints W.length (csStart L W).need) [], .sl 1 lf (ints L.length fun k => (csStart L W).left (lAt L k).Id) []] := by
          rw [ints_congr (n := L.length) (g := fun k => (csStart L W).left (lAt L k).Id) fun j hj => by
            rw [if_pos (by omega)]
            simp only [csStart]
            rw [left0_of f4 (lAt_mem hj)]] at o
          exact o
        clear hY
        have hs0 := csStart_ok hm
        have hsm0 : CSm (csStart L W) := ⟨(left0_bnd f3).le, fun i => by
          simp only [csStart]
          by_cases hi : i < W.length
          · rw [wAt_get hi]; have := wantRight_facts (f5 _ (List.getElem_mem hi)); omega
          · rw [wAt_out (by omega)]; simp⟩
        refine LoopR.intro (fun t vs hh => ∃ (k : Nat) (s : CS), k + t = U.length ∧ vs = [.int .i64 (k : Int)] ∧ Owns h hh [.sl 1 nd (ints W.length s.need) [], .sl 1 lf (ints L.length fun k => s.left (lAt L k).Id) []] ∧ chkRun L W (csStart L W) (U.take k) = some s ∧ CSOk s ∧ CSm s) U.length ?_ ⟨0, csStart L W, by omega, rfl, o, rfl, hs0, hsm0⟩
        rintro Y t vs hh ⟨k, s, hkt, rfl, o, hr, hok, hsm⟩ hY
        simp -dsimp only [ref05_Check.l8, ref05_Check.k7, e3, lssN, B.pv_some]
        refine B.cond_bool (fun hc => ?_) (fun hc => ?_) <;> simp only [decide_eq_true_eq, decide_eq_false_iff_not] at hc
        · have hgu : (U.map Use.cs)[k]? = some (U[k]).cs := by rw [List.getElem?_map, List.getElem?_eq_getElem hc]; rfl
          have hzz := hz.mono o.le
          have hidx : V.idxS 3 z (.int .i64 (k : Int)) = some (elp 3 z k 0) := hzz.idxN (by simpa using hc)
          simp -dsimp only [ref05_Check.k6, hidx, B.ldn_eq, hzz.elem hgu, setUse, B.pv_some]
          refine rcheck_one s2 hx hy f1 f2 f4 hok hsm (by omega) o (fun hno => ?_) fun l h' hl hF o' => ?_
          · refine dn_le o.le ?_
            rw [← checks_none hc hr hno]; exact hq
          · exact hY (U.length - (k + 1)) _ _ (by omega) ⟨k + 1, _, by omega, rfl, o', checks_next hc hr hl hF, chkStep_ok hok hF (lotById_some hl).2, chkStep_sm hsm hF.q⟩
        · rw [List.take_of_length_le (by omega)] at hr
          have hck : checks L W U = (List.range W.length).all fun i => decide (s.need i = 0) := by unfold checks; rw [hm, hr]; rfl
          rw [hck] at hq
          clear hY
          have hn0 := o.slAt 0 rfl
          have en := hn0.lenSl
          rw [ints_len] at en
          refine LoopR.intro (fun t vs h2 => h2 = hh ∧ ∃ k : Nat, k + t = W.length ∧ vs = [.int .i64 (k : Int)] ∧ ∀ j < k, s.need j = 0) W.length ?_ ⟨rfl, 0, by omega, rfl, fun j hj => by omega⟩
          rintro Y t vs h2 ⟨rfl, k, hkt, rfl, ha⟩ hY
          simp -dsimp only [ref05_Check.l2, ref05_Check.k1, en, lssN, B.pv_some]
          refine B.cond_bool (fun hc => ?_) (fun hc => ?_) <;> simp only [decide_eq_true_eq, decide_eq_false_iff_not] at hc
          · obtain ⟨c1, c2⟩ := hn0.intAt hc
            simp -dsimp only [c1, B.ld_eq, c2, V.bin_neq, B.pv_some]
            refine B.cond_bool (fun hd => ?_) (fun hd => ?_)
            · refine dn_le o.le ?_
              have : ((List.range W.length).all fun i => decide (s.need i = 0)) = false := by
                rw [List.all_eq_false]
                exact ⟨k, List.mem_range.2 hc, by simpa using hd⟩
              rw [this] at hq; exact hq
            · simp -dsimp only [add1 (show k < 4611686018427387904 by omega), B.pv_some]
              refine hY (W.length - (k + 1)) _ _ (by omega) ⟨rfl, k + 1, by omega, rfl, fun j hj => ?_⟩
              by_cases e : j = k
              · subst e; simpa using hd
              · exact ha j (by omega)
          · refine dn_le o.le ?_
            have : ((List.range W.length).all fun i => decide (s.need i = 0)) = true := by
              rw [List.all_eq_true]
              intro i hi
              exact decide_eq_true (ha i (by have := List.mem_range.1 hi; omega))
            rw [this] at hq; exact hq
end Go.Ab

/- What is proved: contract of the statement on checks. No conditions. -/
set_option linter.unusedVariables false
set_option linter.unusedSimpArgs false
namespace Go.Ab
variable {C : CSem} {N : Nat → Nat}
def law05_FlowChecks.Spec (C : CSem) (N : Nat → Nat) : Prop := ∀ (x y z : AVal) (L : List Lot) (W : List Want) (U : List Use) (R S T : List (List AVal)) (h : AHeap) (Q : AVal → AHeap → Prop), SlX h 6 x (L.map Lot.cs) R → SlX h 3 y (W.map Want.cs) S → SlX h 3 z (U.map Use.cs) T →
  L.length < 4611686018427387904 → W.length < 4611686018427387904 → U.length < 4611686018427387904 → Q (.bool true) h → C (N 227) [x, y, z] h Q
theorem law05_FlowChecks.spec (i : law05_FlowChecks.Imp C N) (s1 : law05_awake.Spec C N) (s2 : law05_small.Spec C N) (s3 : kit_LentUses.Spec C N) (s4 : flow_Check.Spec C N) (s5 : ref05_Check.Spec C N) (s6 : kit_KeptUses.Spec C N) : law05_FlowChecks.Spec C N := by
  intro x y z L W U R S T h Q hx hy hz hlen hlen2 hlen3 hq
  apply i
  have e3 := hz.lenSl
  rw [List.length_map] at e3
  simp -dsimp only [law05_FlowChecks.cps, law05_FlowChecks.k1]
  refine s1 _ _ ?_
  simp -dsimp only [V.un_not, Bool.not_true, B.cond_false, B.pv_some]
  refine s2 _ _ _ _ _ _ _ _ hx hy ?_
  simp +contextual -dsimp [e3]
  refine B.cond_bool (fun hb => dn_same hq) (fun hb => ?_)
  have hsm : L.length ≤ 40 ∧ W.length ≤ 60 ∧ U.length ≤ 200 := by
    simp only [small, Bool.or_eq_false_iff, Bool.not_eq_false', Bool.and_eq_true, decide_eq_true_eq, decide_eq_false_iff_not] at hb
    omega
  refine s3 _ _ _ _ _ hz (by omega) fun z2 h2 o2 => ?_
  refine s4 _ _ _ L W U _ _ _ _ _ (hx.mono o2.le) (hy.mono o2.le) (o2.slAt 0 rfl) hlen hlen2 hlen3 ?_
  refine s5 _ _ _ L W U _ _ _ _ _ (hx.mono o2.le) (hy.mono o2.le) (hz.mono o2.le) hlen hlen2 hlen3 ?_
  have en : V.eqBool .eql (.bool (checks L W U)) (.bool (checks L W U)) = some (.bool true) := by cases checks L W U <;> rfl
  simp -dsimp [en]
  refine s6 _ _ _ _ _ _ _ (o2.slAt 0 rfl) (hz.mono o2.le) (by omega) ?_
  simp -dsimp
  exact dn_le o2.le hq
end Go.Ab

/- What is proved: arguments: lists of wants, of uses. No conditions. -/
set_option linter.unusedVariables false
namespace Go.Ab
theorem dUse1 {H : AHeap} {p : List AVal} (h : AbsOk H tyUse p) : ∃ w : Use, p = w.cs := by
  obtain ⟨w, e, _⟩ := dUse h; exact ⟨w, e⟩
theorem dWants {H : AHeap} {v : AVal} (h : AbsOk H (.sl 32 3 tyWant) [v]) : ∃ L : List Want, SlIs H 3 v (L.map Want.cs) ∧ L.length < 4611686018427387904 := by
  obtain ⟨L, h1, h2⟩ := arg_slice Want.cs (fun p hp => dWant hp) h
  exact ⟨L, h1, by unfold reach at h2; omega⟩
theorem dUses {H : AHeap} {v : AVal} (h : AbsOk H (.sl 24 3 tyUse) [v]) : ∃ L : List Use, SlIs H 3 v (L.map Use.cs) ∧ L.length < 4611686018427387904 := by
  obtain ⟨L, h1, h2⟩ := arg_slice Use.cs (fun p hp => dUse1 hp) h
  exact ⟨L, h1, by unfold reach at h2; omega⟩
end Go.Ab
