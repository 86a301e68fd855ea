/- What is proved: a part of the way to the statement; each part is headed by what it proves. No conditions. -/
import Derived.Test.YtncpfmgbjopjdaaQ7
import Derived.Test.YtncpfmgbjopjdaaQ3
import Derived.Test.YtncpfmgbjopjdaaQ6

/- What is proved: filling wants one by one serves all just if Hall's condition holds. No program in sight. No conditions. -/
set_option linter.unusedVariables false
set_option linter.unusedSimpArgs false
namespace Go.Ab
/-- One want stands ahead of another. -/
def bef (W : List Want) (i j : Nat) : Prop := (wAt W i).Day < (wAt W j).Day ∨ ((wAt W i).Day = (wAt W j).Day ∧ i < j)
theorem bef_of {W : List Want} {a b : Fin W.length} (h : before W a b) : bef W a.val b.val := by
  unfold bef before at *
  rw [wAt_get a.2, wAt_get b.2]; exact h
theorem bef_total {W : List Want} {i j : Nat} (h : i ≠ j) : bef W i j ∨ bef W j i := by unfold bef; omega
theorem bef_asym {W : List Want} {i j : Nat} (h : bef W i j) (k : bef W j i) : False := by unfold bef at *; omega
theorem bef_day {W : List Want} {i j : Nat} (h : i = j ∨ bef W i j) : (wAt W i).Day ≤ (wAt W j).Day := by
  rcases h with rfl | h
  · exact Int.le_refl _
  · unfold bef at h; omega
/-- What is kept while wants are filled; `lim` is the last want so far. -/
structure GInv (L : List Lot) (W : List Want) (lim : Nat → Prop) (cur : Nat → Int) (left : Lf) (out : List Use) : Prop where
  run : chkRun L W (csStart L W) out = some ⟨left, cur⟩
  E : ∀ u ∈ out, ∀ m ∈ L, ∀ m' ∈ L, m'.Id = u.Lot → lotCmp m m' < 0 → serves m (wAt W u.Want.toNat) = true → left m.Id = 0
  R : out.Pairwise fun u v => (∀ m ∈ L, ∀ m' ∈ L, m.Id = v.Lot → m'.Id = u.Lot → lotCmp m m' < 0 → serves m (wAt W u.Want.toNat) = true → False) ∧ (u.Want.toNat = v.Want.toNat ∨ bef W u.Want.toNat v.Want.toNat)
  M : ∀ u ∈ out, lim u.Want.toNat
theorem serves_iff {l : Lot} {w : Want} : serves l w = true ↔ l.Item = w.Item ∧ Window.has ⟨l.From, l.Until⟩ w.Day = true := by
  simp [serves]
/-- One lot more. -/
theorem GInv.step {L : List Lot} {W : List Want} (hn : (L.map Lot.Id).Nodup) (hstart : CSOk (csStart L W)) {p : Nat} (hp : p < W.length) {lim : Nat → Prop} (hlim : lim p) (hlp : ∀ q, lim q → q = p ∨ bef W q p) {cur : Nat → Int} {st : FS5} {pre : List Lot} {l : Lot} (hl : l ∈ L) (hi : l.Item = (wAt W p).Item)
    (hpre : ∀ m ∈ L, m.Item = (wAt W p).Item → lotCmp m l < 0 → m ∈ pre)
    (g : GInv L W lim (fun i => if i = p then st.need else cur i) st.left st.out) (hk : st.need = 0 ∨ ∀ m ∈ pre, serves m (wAt W p) = true → st.left m.Id = 0) :
    GInv L W lim (fun i => if i = p then (stepU (p : Int) (wAt W p) st l).need else cur i) (stepU (p : Int) (wAt W p) st l).left (stepU (p : Int) (wAt W p) st l).out ∧
    ((stepU (p : Int) (wAt W p) st l).need = 0 ∨ ∀ m ∈ pre ++ [l], serves m (wAt W p) = true → (stepU (p : Int) (wAt W p) st l).left m.Id = 0) := by
  have ok := chkRun_ok g.run hstart
  have hneed : 0 ≤ st.need := by have := ok.need p; simpa using this
  have hok : FSOk st := ⟨ok.left, hneed⟩
  have tk := takeOf_nn hok l
  by_cases hc : takeOf st l = 0 ∨ Window.has ⟨l.From, l.Until⟩ (wAt W p).Day = false
  · have e : stepU (p : Int) (wAt W p) st l = st := by unfold stepU; rw [if_pos hc]
    rw [e]
    refine ⟨g, ?_⟩
    by_cases h0 : st.need = 0
    · exact .inl h0
    · right
      intro m hm hs
      rcases List.mem_append.1 hm with hm | hm
      · exact (hk.resolve_left h0) m hm hs
      · rw [List.mem_singleton.1 hm] at hs ⊢
        rcases hc with hc | hc
        · unfold takeOf at hc
          have := ok.left l.Id
          simp only at this
          omega
        · rw [(serves_iff.1 hs).2] at hc; cases hc
  · have e : stepU (p : Int) (wAt W p) st l = ⟨fun n => if n = l.Id then st.left l.Id - takeOf st l else st.left n, st.need - takeOf st l, st.out ++ [⟨p, l.Id, takeOf st l⟩]⟩ := by unfold stepU; rw [if_neg hc]
    have h1 : takeOf st l ≠ 0 := fun h => hc (.inl h)
    have h2 : Window.has ⟨l.From, l.Until⟩ (wAt W p).Day = true := by
      cases h : Window.has ⟨l.From, l.Until⟩ (wAt W p).Day
      · exact absurd (.inr h) hc
      · rfl
    have hsv : serves l (wAt W p) = true := serves_iff.2 ⟨hi, h2⟩
    have hk' := hk.resolve_left (by omega)
    rw [e]
    refine ⟨⟨?_, ?_, ?_, ?_⟩, ?_⟩
    · rw [chkRun_app, g.run]
      simp only [Option.bind_some]
      rw [chkRun_one hn hl rfl ⟨by simp, by simpa using hp, by simp only; omega, by simp only; omega, by simp; omega, by simpa using hsv⟩]
      simp only [chkStep, Int.toNat_natCast]
      congr 2
      · funext n; split
        · rename_i e; subst e; rfl
        · rfl
      · funext i; split <;> rfl
    · intro u hu m hm m' hm' hid hlt hs
      simp only
      split
      · rename_i em
        have hml : m = l := id_inj hn hm hl em
        subst hml
        rcases List.mem_append.1 hu with hu | hu
        · have := g.E u hu m hm m' hm' hid hlt hs; omega
        · rw [List.mem_singleton.1 hu] at hid
          have : m' = m := id_inj hn hm' hl hid
          subst this
          have := lotW.irr m'
          unfold lessC at this
          rw [decide_eq_false_iff_not] at this
          exact absurd hlt this
      · rcases List.mem_append.1 hu with hu | hu
        · exact g.E u hu m hm m' hm' hid hlt hs
        · rw [List.mem_singleton.1 hu] at hid hs
          have : m' = l := id_inj hn hm' hl hid
          subst this
          simp only [Int.toNat_natCast] at hs
          exact hk' m (hpre m hm (serves_iff.1 hs).1 hlt) hs
    · rw [List.pairwise_append]
      refine ⟨g.R, List.pairwise_singleton _ _, fun u hu v hv => ?_⟩
      rw [List.mem_singleton.1 hv]
      refine ⟨fun m hm m' hm' h3 h4 h5 h6 => ?_, ?_⟩
      · have hml : m = l := id_inj hn hm hl h3
        subst hml
        have := g.E u hu m hm m' hm' h4 h5 h6; omega
      · have := hlp _ (g.M u hu)
        simpa using this
    · intro u hu
      rcases List.mem_append.1 hu with hu | hu
      · exact g.M u hu
      · rw [List.mem_singleton.1 hu]; simpa using hlim
    · simp only
      by_cases h0 : st.need - takeOf st l = 0
      · exact .inl h0
      · right
        intro m hm hs
        split
        · unfold takeOf at *; omega
        · rcases List.mem_append.1 hm with hm | hm
          · exact hk' m hm hs
          · rename_i ne; rw [List.mem_singleton.1 hm] at ne; exact absurd rfl ne
theorem rowOf_mem {L : List Lot} {w : Want} {m : Lot} : m ∈ rowOf L w ↔ m ∈ L ∧ m.Item = w.Item := by
  unfold rowOf
  rw [List.mem_filter, (sortLots_perm L).mem_iff]; simp
theorem rowOf_up (L : List Lot) (w : Want) : (rowOf L w).Pairwise fun a b => lessC lotCmp b a = false := (sortLots_up L).filter _
/-- All lots of a row. -/
theorem GInv.row {L : List Lot} {W : List Want} (hn : (L.map Lot.Id).Nodup) (hstart : CSOk (csStart L W)) {p : Nat} (hp : p < W.length) {lim : Nat → Prop} (hlim : lim p) (hlp : ∀ q, lim q → q = p ∨ bef W q p) {cur : Nat → Int} :
    ∀ (post pre : List Lot) {st : FS5}, pre ++ post = rowOf L (wAt W p) → GInv L W lim (fun i => if i = p then st.need else cur i) st.left st.out → (st.need = 0 ∨ ∀ m ∈ pre, serves m (wAt W p) = true → st.left m.Id = 0) →
      GInv L W lim (fun i => if i = p then (post.foldl (stepU (p : Int) (wAt W p)) st).need else cur i) (post.foldl (stepU (p : Int) (wAt W p)) st).left (post.foldl (stepU (p : Int) (wAt W p)) st).out ∧
      ((post.foldl (stepU (p : Int) (wAt W p)) st).need = 0 ∨ ∀ m ∈ rowOf L (wAt W p), serves m (wAt W p) = true → (post.foldl (stepU (p : Int) (wAt W p)) st).left m.Id = 0)
  | [], pre, st, he, g, hk => by rw [List.append_nil] at he; rw [← he]; exact ⟨g, hk⟩
  | l :: post, pre, st, he, g, hk => by
    have hl : l ∈ rowOf L (wAt W p) := by rw [← he]; simp
    obtain ⟨hl1, hl2⟩ := rowOf_mem.1 hl
    have hs := g.step hn hstart hp hlim hlp hl1 hl2 (pre := pre) (fun m hm hi hlt => by
      have hm' : m ∈ rowOf L (wAt W p) := rowOf_mem.2 ⟨hm, hi⟩
      rw [← he] at hm'
      rcases List.mem_append.1 hm' with h | h
      · exact h
      · have hup := rowOf_up L (wAt W p)
        rw [← he, List.pairwise_append] at hup
        have := hup.2.1
        rcases List.mem_cons.1 h with rfl | h
        · have := lotW.irr m
          unfold lessC at this; rw [decide_eq_false_iff_not] at this
          exact absurd hlt this
        · have := (List.pairwise_cons.1 this).1 m h
          unfold lessC at this; rw [decide_eq_false_iff_not] at this
          exact absurd hlt this) hk
    exact GInv.row hn hstart hp hlim hlp post (pre ++ [l]) (by simpa using he) hs.1 hs.2
/-- All wants, or the first that lacks something. -/
structure Stuck (L : List Lot) (W : List Want) (p : Nat) (cur : Nat → Int) (left : Lf) (out : List Use) : Prop where
  inv : GInv L W (fun q => q = p ∨ bef W q p) cur left out
  lt : p < W.length
  pos : 0 < cur p
  none_ : ∀ m ∈ L, serves m (wAt W p) = true → left m.Id = 0
theorem fillAll_inv {L : List Lot} {W : List Want} (hn : (L.map Lot.Id).Nodup) (hstart : CSOk (csStart L W)) :
    ∀ (ps A : List (Fin W.length)) {left : Lf} {out : List Use}, A ++ ps = dayOrder W → GInv L W (fun q => ∃ a ∈ A, a.val = q) (fun i => if ∃ a ∈ A, a.val = i then 0 else (wAt W i).Qty) left out →
      (∀ us lf, fillAll L W ps left out = some (us, lf) → ∃ cur, chkRun L W (csStart L W) us = some ⟨lf, cur⟩ ∧ ∀ i < W.length, cur i = 0) ∧
      (fillAll L W ps left out = none → ∃ p cur lf us, Stuck L W p cur lf us)
  | [], A, left, out, he, g => by
    rw [List.append_nil] at he
    refine ⟨fun us lf h => ?_, fun h => by cases h⟩
    cases h
    refine ⟨_, g.run, fun i hi => ?_⟩
    rw [if_pos]
    exact ⟨⟨i, hi⟩, by rw [he]; exact dayOrder_mem W _, rfl⟩
  | p :: ps, A, left, out, he, g => by
    have hup := dayOrder_up W
    rw [← he, List.pairwise_append] at hup
    have hnp : ¬ ∃ a ∈ A, a.val = p.val := fun ⟨a, ha, e⟩ => by
      have := hup.2.2 a ha p (by simp)
      rw [Fin.ext e] at this
      exact before_irr W _ this
    have hw : wAt W p.val = W[p] := wAt_get p.2
    have hst := GInv.row hn hstart (p := p.val) p.2 (lim := fun q => (∃ a ∈ A, a.val = q) ∨ q = p.val) (.inr rfl) (fun q hq => by
      rcases hq with ⟨a, ha, rfl⟩ | rfl
      · exact .inr (bef_of (hup.2.2 a ha p (by simp)))
      · exact .inl rfl) (cur := fun i => if ∃ a ∈ A, a.val = i then 0 else (wAt W i).Qty) (rowOf L (wAt W p.val)) [] (st := ⟨left, W[p].Qty, out⟩) rfl (by
        have e : (fun i => if i = p.val then W[p].Qty else if ∃ a ∈ A, a.val = i then 0 else (wAt W i).Qty) = fun i => if ∃ a ∈ A, a.val = i then 0 else (wAt W i).Qty := by
          funext i
          by_cases ei : i = p.val
          · subst ei; rw [if_pos rfl, if_neg hnp, hw]
          · rw [if_neg ei]
        simp only at e ⊢
        rw [e]
        exact ⟨g.run, g.E, g.R, fun u hu => .inl (g.M u hu)⟩) (.inr (by simp))
    have efold : (rowOf L (wAt W p.val)).foldl (stepU (p.val : Int) (wAt W p.val)) ⟨left, W[p].Qty, out⟩ = fillOne L (p.val : Int) W[p] left out := by unfold fillOne; rw [hw]
    rw [efold] at hst
    obtain ⟨g2, hk⟩ := hst
    have ok2 := chkRun_ok g2.run hstart
    have hn2 : 0 ≤ (fillOne L (p.val : Int) W[p] left out).need := by have := ok2.need p.val; simpa using this
    by_cases hc : 0 < (fillOne L (p.val : Int) W[p] left out).need
    · refine ⟨fun us lf h => ?_, fun _ => ⟨p.val, fun i => if i = p.val then (fillOne L (p.val : Int) W[p] left out).need else if ∃ a ∈ A, a.val = i then 0 else (wAt W i).Qty, (fillOne L (p.val : Int) W[p] left out).left, (fillOne L (p.val : Int) W[p] left out).out, ⟨?_, p.2, by simpa using hc, fun m hm hs => ?_⟩⟩⟩
      · simp only [fillAll, if_pos hc] at h; cases h
      · exact ⟨g2.run, g2.E, g2.R, fun u hu => by
          rcases g2.M u hu with ⟨a, ha, e⟩ | e
          · right; rw [← e]; exact bef_of (hup.2.2 a ha p (by simp))
          · exact .inl e⟩
      · rcases hk with hk | hk
        · omega
        · exact hk m (rowOf_mem.2 ⟨hm, (serves_iff.1 hs).1⟩) hs
    · have ih := fillAll_inv hn hstart ps (A ++ [p]) (left := (fillOne L (p.val : Int) W[p] left out).left) (out := (fillOne L (p.val : Int) W[p] left out).out) (by simpa using he) (by
        have e : (fun i => if i = p.val then (fillOne L (p.val : Int) W[p] left out).need else if ∃ a ∈ A, a.val = i then 0 else (wAt W i).Qty) = fun i => if ∃ a ∈ A ++ [p], a.val = i then 0 else (wAt W i).Qty := by
          funext i
          by_cases ei : i = p.val
          · subst ei; rw [if_pos rfl, if_pos ⟨p, by simp, rfl⟩]; omega
          · rw [if_neg ei]
            by_cases ea : ∃ a ∈ A, a.val = i
            · obtain ⟨a, ha, e⟩ := ea
              rw [if_pos ⟨a, ha, e⟩, if_pos ⟨a, by simp [ha], e⟩]
            · rw [if_neg ea, if_neg]
              rintro ⟨a, ha, e⟩
              rcases List.mem_append.1 ha with ha | ha
              · exact ea ⟨a, ha, e⟩
              · rw [List.mem_singleton.1 ha] at e; exact ei e.symm
        rw [← e]
        exact ⟨g2.run, g2.E, g2.R, fun u hu => by
          rcases g2.M u hu with ⟨a, ha, e⟩ | e
          · exact ⟨a, by simp [ha], e⟩
          · exact ⟨p, by simp, e.symm⟩⟩)
      simp only [fillAll, if_neg hc]
      exact ih
/-- The wants that stand in the way of one. -/
inductive Way (L : List Lot) (W : List Want) (P : Nat) (out : List Use) : Nat → Prop
  | base : Way L W P out P
  | step {p : Nat} {m : Lot} {u : Use} : Way L W P out p → m ∈ L → serves m (wAt W p) = true → u ∈ out → u.Lot = m.Id → u.Want.toNat = p ∨ bef W u.Want.toNat p → Way L W P out u.Want.toNat
theorem has_of {l : Lot} {d d' : Int} {m : Lot} (h : Window.has ⟨l.From, l.Until⟩ d = true) (hm : Window.has ⟨m.From, m.Until⟩ d' = true) (hd : d ≤ d') (hu : ¬ lotCmp l m < 0) : Window.has ⟨l.From, l.Until⟩ d' = true := by
  simp only [Window.has, Bool.and_eq_true, decide_eq_true_eq] at *
  rw [lotCmp_neg] at hu
  refine ⟨⟨h.1.1, by omega⟩, by omega⟩
section
variable {L : List Lot} {W : List Want} {P : Nat} {cur : Nat → Int} {left : Lf} {out : List Use}
theorem Way.item (hn : (L.map Lot.Id).Nodup) (s : Stuck L W P cur left out) {q : Nat} (h : Way L W P out q) : (wAt W q).Item = (wAt W P).Item ∧ q < W.length := by
  induction h with
  | base => exact ⟨rfl, s.lt⟩
  | step w hm hs hu he hb ih =>
    obtain ⟨l, h1, h2, h3, h4⟩ := chkRun_serves s.inv.run _ hu
    have := id_inj hn h1 hm (by rw [h2, he])
    subst this
    exact ⟨by rw [← ih.1, ← (serves_iff.1 h4).1, (serves_iff.1 hs).1], h3⟩
theorem Way.over (hn : (L.map Lot.Id).Nodup) (s : Stuck L W P cur left out) {q : Nat} (h : Way L W P out q) : ∀ l ∈ L, serves l (wAt W q) = true → left l.Id = 0 := by
  induction h with
  | base => exact s.none_
  | @step p m u w hm hs hu he hb ih =>
    intro l hl hls
    by_cases hc : lotCmp l m < 0
    · exact s.inv.E _ hu l hl m hm he.symm hc hls
    · refine ih l hl ?_
      obtain ⟨l', h1, h2, h3, h4⟩ := chkRun_serves s.inv.run _ hu
      have := id_inj hn h1 hm (by rw [h2, he])
      subst this
      obtain ⟨i1, a1⟩ := serves_iff.1 hls
      obtain ⟨i2, a2⟩ := serves_iff.1 hs
      obtain ⟨i3, a3⟩ := serves_iff.1 h4
      exact serves_iff.2 ⟨by rw [i1, ← i3, i2], has_of a1 a2 (bef_day hb) hc⟩
theorem Way.all (hn : (L.map Lot.Id).Nodup) (s : Stuck L W P cur left out) {q : Nat} (h : Way L W P out q) : ∀ m ∈ L, serves m (wAt W q) = true → ∀ v ∈ out, v.Lot = m.Id → Way L W P out v.Want.toNat := by
  induction h with
  | base => intro m hm hs v hv he; exact .step .base hm hs hv he (s.inv.M v hv)
  | @step p m' u w hm' hs' hu he' hb ih =>
    intro m hm hs v hv he
    have hwq : Way L W P out u.Want.toNat := .step w hm' hs' hu he' hb
    by_cases hx : v.Want.toNat = u.Want.toNat ∨ bef W v.Want.toNat u.Want.toNat
    · exact .step hwq hm hs hv he hx
    · have hvu : v.Want.toNat ≠ u.Want.toNat := fun e => hx (.inl e)
      have hbv : bef W u.Want.toNat v.Want.toNat := by
        rcases bef_total hvu with h | h
        · exact absurd (.inr h) hx
        · exact h
      by_cases hc : lotCmp m m' < 0
      · exfalso
        -- the lot is before the one that was used: it was out, and used nonetheless
        obtain ⟨i, hi, ei⟩ := List.getElem_of_mem hu
        obtain ⟨j, hj, ej⟩ := List.getElem_of_mem hv
        have hp := List.pairwise_iff_getElem.1 s.inv.R
        rcases Nat.lt_trichotomy i j with hij | hij | hij
        · have := (hp i j hi hj hij).1
          rw [ei, ej] at this
          exact this m hm m' hm' he.symm he'.symm hc hs
        · subst hij; rw [ei] at ej; subst ej; exact hvu rfl
        · have := (hp j i hj hi hij).2
          rw [ei, ej] at this
          exact hx this
      · refine ih m hm ?_ v hv he
        obtain ⟨l', h1, h2, h3, h4⟩ := chkRun_serves s.inv.run _ hu
        have := id_inj hn h1 hm' (by rw [h2, he'])
        subst this
        obtain ⟨i1, a1⟩ := serves_iff.1 hs
        obtain ⟨i2, a2⟩ := serves_iff.1 hs'
        obtain ⟨i3, a3⟩ := serves_iff.1 h4
        exact serves_iff.2 ⟨by rw [i1, ← i3, i2], has_of a1 a2 (bef_day hb) hc⟩
open Classical in
/-- Where a want lacks something, some wants of one item want more than there is. -/
theorem stuck_hall (hn : (L.map Lot.Id).Nodup) (hstart : CSOk (csStart L W)) (s : Stuck L W P cur left out) : ∃ S : Nat → Bool, (∀ i, S i = true → i < W.length ∧ (wAt W i).Item = (wAt W P).Item) ∧ leftS L W (csStart L W).left S < needS W (csStart L W).need S := by
  refine ⟨fun i => decide (Way L W P out i), fun i hi => ?_, ?_⟩
  · have := Way.item hn s (of_decide_eq_true hi)
    exact ⟨this.2, this.1⟩
  · have ok := chkRun_ok s.inv.run hstart
    have ph := chk_phi_eq hn (fun i => decide (Way L W P out i)) s.inv.run (fun u hu l hl he hm => by
      unfold nS at hm
      rw [List.any_eq_true] at hm
      obtain ⟨i, _, hi⟩ := hm
      rw [Bool.and_eq_true] at hi
      exact decide_eq_true (Way.all hn s (of_decide_eq_true hi.1) l hl hi.2 u hu he.symm))
    have hz : leftS L W left (fun i => decide (Way L W P out i)) = 0 := sumF_zero fun l hl => by
      cases hm : nS W (fun i => decide (Way L W P out i)) l with
      | false => rfl
      | true =>
        unfold nS at hm
        rw [List.any_eq_true] at hm
        obtain ⟨i, _, hi⟩ := hm
        rw [Bool.and_eq_true] at hi
        exact Way.over hn s (of_decide_eq_true hi.1) l hl hi.2
    have hpos : 0 < needS W cur (fun i => decide (Way L W P out i)) := by
      have h1 := sumF_upd (f := fun i => bif decide (Way L W P out i) then cur i else 0) (g := fun i => if i = P then 0 else bif decide (Way L W P out i) then cur i else 0) (a := P) (d := cur P) (l := List.range W.length) List.nodup_range (List.mem_range.2 s.lt) (fun b _ hb => by simp [hb]) (by simp [Way.base])
      have h2 : 0 ≤ sumF (fun i => if i = P then 0 else bif decide (Way L W P out i) then cur i else 0) (List.range W.length) := sumF_nn fun i _ => by
        have := ok.need i
        simp only at this
        split
        · exact Int.le_refl _
        · cases decide (Way L W P out i)
          · exact Int.le_refl _
          · exact this
      have := s.pos
      simp only [needS]
      omega
    simp only at ph
    omega
end
theorem greedy_inv {L : List Lot} {W : List Want} (h : mayBe L W = true) :
    (∀ us lf, greedy L W = some (us, lf) → ∃ cur, chkRun L W (csStart L W) us = some ⟨lf, cur⟩ ∧ ∀ i < W.length, cur i = 0) ∧
    (greedy L W = none → ∃ p cur lf us, Stuck L W p cur lf us) := by
  obtain ⟨f1, f2, f3, f4, f5⟩ := mayBe_facts h
  have e : greedy L W = fillAll L W (dayOrder W) (left0 L) [] := by unfold greedy; rw [h]; rfl
  rw [e]
  refine fillAll_inv f4 (csStart_ok h) (dayOrder W) [] rfl ⟨?_, by simp, List.Pairwise.nil, by simp⟩
  simp [chkRun, csStart]
theorem greedy_checks {L : List Lot} {W : List Want} {us : List Use} {lf : Lf} (h : greedy L W = some (us, lf)) : mayBe L W = true ∧ checks L W us = true := by
  have hm : mayBe L W = true := by
    unfold greedy at h
    cases hm : mayBe L W with
    | true => rfl
    | false => rw [hm] at h; cases h
  obtain ⟨cur, h1, h2⟩ := (greedy_inv hm).1 us lf h
  refine ⟨hm, ?_⟩
  unfold checks
  rw [hm, h1]
  simp only [Bool.true_and, List.all_eq_true, decide_eq_true_eq]
  exact fun i hi => h2 i (List.mem_range.1 hi)
theorem greedy_why {L : List Lot} {W : List Want} (hm : mayBe L W = true) (h : greedy L W = none) : ∃ S : Nat → Bool, (∃ p < W.length, S p = true ∧ ∀ i, S i = true → i < W.length ∧ (wAt W i).Item = (wAt W p).Item) ∧ leftS L W (csStart L W).left S < needS W (csStart L W).need S := by
  obtain ⟨f1, f2, f3, f4, f5⟩ := mayBe_facts hm
  obtain ⟨p, cur, lf, us, s⟩ := (greedy_inv hm).2 h
  obtain ⟨S, h1, h2⟩ := stuck_hall f4 (csStart_ok hm) s
  by_cases hS : ∃ q, S q = true
  · obtain ⟨q, hq⟩ := hS
    exact ⟨S, ⟨q, (h1 q hq).1, hq, fun i hi => ⟨(h1 i hi).1, by rw [(h1 i hi).2, (h1 q hq).2]⟩⟩, h2⟩
  · exfalso
    have e : needS W (csStart L W).need S = 0 := sumF_zero fun i _ => by
      cases hi : S i with
      | false => rfl
      | true => exact absurd ⟨i, hi⟩ hS
    have : 0 ≤ leftS L W (csStart L W).left S := sumF_nn fun l _ => by
      cases nS W S l
      · exact Int.le_refl _
      · exact (csStart_ok hm).left _
    omega
theorem greedy_hall {L : List Lot} {W : List Want} (hm : mayBe L W = true) : (greedy L W).isSome = true ↔ Hall L W := by
  constructor
  · intro h
    cases e : greedy L W with
    | none => rw [e] at h; cases h
    | some x => exact (checks_hall (greedy_checks (us := x.1) (lf := x.2) e).2).2
  · intro h
    cases e : greedy L W with
    | some x => rfl
    | none =>
      obtain ⟨S, _, hS⟩ := greedy_why hm e
      have := h S
      omega
end Go.Ab

/- What is proved: contract: do uses serve wants? No conditions. -/
set_option linter.unusedVariables false
set_option linter.unusedSimpArgs false
namespace Go.Ab
variable {C : CSem} {N : Nat → Nat}
section
variable {h0 h : AHeap} {id : Nat} {L : List Lot} {W : List Want} {U : List Use} {Q : AVal → AHeap → Prop} {x y z cl : AVal} {T : List (List AVal)}
end
end Go.Ab

/- What is proved: plain facts on lots: what is over, how much can be used. No program in sight. No conditions. -/
set_option linter.unusedVariables false
set_option linter.unusedSimpArgs false
namespace Go.Ab
end Go.Ab

/- What is proved: contracts of the fourth chapter's statements' functions: what is over. No conditions. -/
set_option linter.unusedVariables false
set_option linter.unusedSimpArgs false
namespace Go.Ab
variable {C : CSem} {N : Nat → Nat}
end Go.Ab

/- What is proved: contracts of what the statements share about answers; and of the bag, in which all lists are held that must lie apart. No conditions. -/
set_option linter.unusedVariables false
set_option linter.unusedSimpArgs false
set_option maxRecDepth 100000
namespace Go.Ab
variable {C : CSem} {N : Nat → Nat}

/-! Answers. -/
structure TellLent (h : AHeap) (t : TellP) (x y : AVal) : Prop where
  lots : SlX h 6 x (t.Lots.map Lot.cs) marksLot
  uses : SlX h 3 y (t.Uses.map Use.cs) marksUse
theorem TellLent.at_ {h : AHeap} {t : TellP} {x y : AVal} (a : TellLent h t x y) : TellAt h t x y := ⟨⟨_, a.lots⟩, ⟨_, a.uses⟩⟩
theorem TellLent.mono {h H : AHeap} {t : TellP} {x y : AVal} (a : TellLent h t x y) (hle : h.le H) : TellLent H t x y := ⟨a.lots.mono hle, a.uses.mono hle⟩
end Go.Ab

/- What is proved: contracts of the bag, in which all lists are held that must lie apart. No conditions. -/
set_option linter.unusedVariables false
set_option linter.unusedSimpArgs false
set_option maxRecDepth 100000
namespace Go.Ab
variable {C : CSem} {N : Nat → Nat}

abbrev sing (v : AVal) : List AVal := [v]
/-- A bag at id: B: what it holds, by kinds. -/
def BagAt (h hh : AHeap) (id : Nat) (B : Nat → List AVal) : Prop := ∃ xs : Nat → AVal, Owns h hh (Objs 1 23 xs (fun i => (B i).map sing) (fun _ => []) ++ [.box (.ptr id 0 0) (fill 23 xs)])
theorem Owns.nilObjs {h0 h : AHeap} {l : List Ob} (ho : Owns h0 h l) (es n : Nat) : Owns h0 h (Objs es n (fun _ => .nils) (fun _ => []) (fun _ => []) ++ l) := by
  have mem : ∀ o ∈ Objs es n (fun _ => AVal.nils) (fun _ => []) (fun _ => []), o = .sl es .nils [] [] := fun o hm => by
    obtain ⟨j, _, rfl⟩ := List.mem_map.1 hm; rfl
  refine ⟨ho.le, fun o hm => ?_, fun o hm => ?_, List.pairwise_append.2 ⟨?_, ho.apart, fun a ha b _ id hf => by rw [mem a ha] at hf; cases hf⟩⟩
  · rcases List.mem_append.1 hm with hm | hm
    · rw [mem o hm]; exact SlX.nils h es
    · exact ho.is o hm
  · rcases List.mem_append.1 hm with hm | hm
    · intro id hf; rw [mem o hm] at hf; cases hf
    · exact ho.own o hm
  · rw [List.pairwise_iff_forall_sublist]
    intro a b hs id hf
    rw [mem a (hs.subset (by simp))] at hf; cases hf
theorem BagAt.start {h : AHeap} {id : Nat} (hid : h id = none) : BagAt h (upd h id (blkOf (fill 23 fun _ => .nils))) id fun _ => [] := by
  refine ⟨fun _ => .nils, ?_⟩
  have := ((Owns.start h).newBox hid (fill 23 fun _ => .nils)).nilObjs 1 23
  simpa using this
def bagFull (i : Nat) : Bool := [false, false, false, true, true, true, true, true, true, true, false, true, false, true, false, false, false, false, false, false, false, false, false].getD i false
/-- A bag that is there at first. -/
structure BagIs (h0 : AHeap) (id : Nat) (B : Nat → List AVal) (D : Nat → Nat → List (List AVal)) (xs : Nat → AVal) : Prop where
  box : h0 id = some (blkOf (fill 23 xs))
  is : ∀ i, i < 23 → SlX h0 1 (xs i) ((B i).map sing) []
  none : ∀ i, i < 23 → bagFull i = false → B i = []
  n_le : ∀ i, i < 23 → (B i).length ≤ 100000000
  len_le : ∀ i, i < 23 → ∀ j, j < (B i).length → (D i j).length ≤ 100000000
section
variable {h0 h : AHeap} {id : Nat} {B : Nat → List AVal} {D R : Nat → Nat → List (List AVal)} {xs : Nat → AVal} {Q : AVal → AHeap → Prop}
theorem BagIs.ld (hb : BagIs h0 id B D xs) (hle : h0.le h) {i : Nat} (hi : i < 23) : A.ldv h (.ptr id 0 i) = some (xs i) := by
  rw [ldv_at (hle _ _ hb.box), fill_get _ hi]
end
end Go.Ab

/- What is proved: contracts of the statements' question whether lists lie apart. No conditions. -/
set_option linter.unusedVariables false
set_option linter.unusedSimpArgs false
set_option maxRecDepth 100000
namespace Go.Ab
variable {C : CSem} {N : Nat → Nat}

theorem BagAt.le {h hh : AHeap} {id : Nat} {B : Nat → List AVal} (hb : BagAt h hh id B) : h.le hh := by obtain ⟨_, ho⟩ := hb; exact ho.le
@[simp] theorem Objs_zero {es : Nat} {xs : Nat → AVal} {D R : Nat → List (List AVal)} : Objs es 0 xs D R = [] := rfl

abbrev TellC := TellP × AVal × AVal
@[simp] def TellC.cs (a : TellC) : List AVal := a.1.cs a.2.1 a.2.2
end Go.Ab

/- What is proved: lists of lots that lie apart. No conditions. -/
set_option linter.unusedVariables false
set_option linter.unusedSimpArgs false
namespace Go.Ab
variable {C : CSem} {N : Nat → Nat}
end Go.Ab

/- What is proved: contracts of answers' bytes, the program's and the document's. No conditions. -/
set_option linter.unusedVariables false
set_option linter.unusedSimpArgs false
namespace Go.Ab
variable {C : CSem} {N : Nat → Nat}

end Go.Ab

/- What is proved: contracts of what reads answers' bytes, the program's and the document's. No conditions. -/
set_option linter.unusedVariables false
set_option linter.unusedSimpArgs false
namespace Go.Ab
variable {C : CSem} {N : Nat → Nat}

structure Rdr where
  at_ : Nat
  bad : Bool
def beVal (l : List UInt8) : Nat := l.foldl (fun n c => 256 * n + c.toNat) 0
def rNum (b : List UInt8) (k : Nat) (r : Rdr) : Int × Rdr := if r.bad = true ∨ b.length - r.at_ < k then (0, ⟨r.at_, true⟩) else (IntKind.i64.wrap (beVal ((b.drop r.at_).take k)), ⟨r.at_ + k, false⟩)
def rCode (b : List UInt8) (r : Rdr) : List UInt8 × Rdr := if r.bad then ([], r) else ((codeGet (b.drop r.at_)).1, ⟨r.at_ + (codeGet (b.drop r.at_)).2.1, !(codeGet (b.drop r.at_)).2.2⟩)
theorem rNum_le {b : List UInt8} {k : Nat} {r : Rdr} (h : r.at_ ≤ b.length) : (rNum b k r).2.at_ ≤ b.length := by
  unfold rNum; split
  · exact h
  · rename_i hh; simp only [not_or] at hh; simp only; omega
theorem codeGet_le : ∀ b : List UInt8, (codeGet b).2.1 ≤ b.length
  | [] => by simp [codeGet]
  | c :: r => by rw [codeGet_cons]; split <;> simp; rename_i hh; simp only [not_or] at hh; omega
theorem rCode_le {b : List UInt8} {r : Rdr} (h : r.at_ ≤ b.length) : (rCode b r).2.at_ ≤ b.length := by
  unfold rCode; split
  · exact h
  · have := codeGet_le (b.drop r.at_); simp at this ⊢; omega

/-- A reader: p, over the bytes x. -/
abbrev RdAt (h0 h : AHeap) (p x : AVal) (r : Rdr) : Prop := Owns h0 h [.box p [x, .int .i64 (r.at_ : Int), .bool r.bad]]

def ref13_Reader_Number.Spec (C : CSem) (N : Nat → Nat) : Prop := ∀ (h0 h : AHeap) (p x : AVal) (b : List UInt8) (R : List (List AVal)) (r : Rdr) (k : Nat) (Q : AVal → AHeap → Prop), SlX h0 1 x (b.map bc) R → b.length < 4611686018427387904 → r.at_ ≤ b.length → k ≤ 8 → RdAt h0 h p x r →
  (∀ h', RdAt h0 h' p x (rNum b k r).2 → Q (.int .i64 (rNum b k r).1) h') → C (N 71) [p, .int .i64 (k : Int)] h Q
def rLot (b : List UInt8) (r : Rdr) : Lot × Rdr :=
  let a := rNum b 8 r
  let c := rCode b a.2
  let f := rNum b 2 c.2
  let u := rNum b 2 f.2
  let q := rNum b 8 u.2
  let e := rNum b 1 q.2
  (⟨a.1, c.1, f.1, u.1, q.1, decide (e.1 = 1)⟩, ⟨e.2.at_, e.2.bad || decide (1 < e.1)⟩)
theorem rLot_le {b : List UInt8} {r : Rdr} (h : r.at_ ≤ b.length) : (rLot b r).2.at_ ≤ b.length :=
  rNum_le (rNum_le (rNum_le (rNum_le (rCode_le (rNum_le h)))))
def rUse (b : List UInt8) (r : Rdr) : Use × Rdr :=
  let a := rNum b 8 r
  let c := rNum b 8 a.2
  let f := rNum b 8 c.2
  (⟨a.1, c.1, f.1⟩, f.2)
theorem rUse_le {b : List UInt8} {r : Rdr} (h : r.at_ ≤ b.length) : (rUse b r).2.at_ ≤ b.length := rNum_le (rNum_le (rNum_le h))

def ref14_lot.Spec (C : CSem) (N : Nat → Nat) : Prop := ∀ (h0 h : AHeap) (p x : AVal) (b : List UInt8) (R : List (List AVal)) (r : Rdr) (Q : AVal → AHeap → Prop), SlX h0 1 x (b.map bc) R → b.length < 4611686018427387904 → r.at_ ≤ b.length → RdAt h0 h p x r →
  (∀ h', RdAt h0 h' p x (rLot b r).2 → Q (.agg (rLot b r).1.cs) h') → C (N 72) [p] h Q
end Go.Ab

/- What is proved: contracts of getting answers out of bytes, the program's and the document's. No conditions. -/
set_option linter.unusedVariables false
set_option linter.unusedSimpArgs false
namespace Go.Ab
variable {C : CSem} {N : Nat → Nat}

def rList {T : Type} (one : Rdr → T × Rdr) : Nat → Rdr → List T × Rdr
  | 0, r => ([], r)
  | n + 1, r => if r.bad then ([], r) else ((one r).1 :: (rList one n (one r).2).1, (rList one n (one r).2).2)
structure ReadsAt (h0 : AHeap) (x : AVal) (b : List UInt8) : Prop where
  is : ∃ R, SlX h0 1 x (b.map bc) R
  lt : b.length < 4611686018427387904
theorem ReadsAt.mono {h0 h : AHeap} {x : AVal} {b : List UInt8} (hr : ReadsAt h0 x b) (hle : h0.le h) : ReadsAt h x b := by
  obtain ⟨⟨R, a⟩, c⟩ := hr; exact ⟨⟨R, a.mono hle⟩, c⟩

def tellZero : TellP := ⟨0, 0, 0, [], 0, [], []⟩
theorem Owns.boxStn {h0 h : AHeap} {l : List Ob} (ho : Owns h0 h l) (k : Nat) {id n : Nat} {cs xs : List AVal} {K : AHeap → Prop} (hk : l[k]? = some (.box (.ptr id 0 0) cs)) (hn : xs.length = n) (hc : cs.length = n)
    (hK : ∀ h', Owns h0 h' (l.set k (.box (.ptr id 0 0) xs)) → But (.ptr id 0 0) h h' → K h') : A.stn h (.ptr id 0 0) n (.agg xs) K := by
  obtain ⟨id', e, hb⟩ := ho.boxAt k hk
  cases e
  rw [stn_at hb hn (by omega)]
  have e1 : cs.take 0 ++ xs ++ cs.drop (0 + n) = xs := by simp [← hc]
  rw [e1]
  have hbut : But (.ptr id 0 0) h (upd h id (blkOf xs)) := fun j b e1 e2 => by rw [upd_other]; exact e1; intro e; subst e; exact e2 rfl
  exact hK _ (ho.turn k hk ⟨id, rfl, upd_same ..⟩ (fun j b hj hb' => by cases hj; rw [upd_same] at hb'; cases hb'; rfl) hbut (.inl rfl)) hbut

def tellEnd (t : TellP) (r : Rdr) : TellP × Nat × Int := if r.bad || !tellRight t then (tellZero, 0, 4) else (t, r.at_, 0)
/-- What getting answers. -/
@[simp] def TellP.val (g : TellP × Nat × Int) (x y : AVal) : AVal := .tup [.agg (g.1.cs x y), .int .i64 (g.2.1 : Int), .int .i64 g.2.2]

theorem tell_Get.fin (s : tell_Right.Spec C N) {h hh : AHeap} {i2 : Nat} {p x : AVal} {cs2 : List AVal} {t : TellP} {r : Rdr} {lx ly : AVal} {Q : AVal → AHeap → Prop} (ho : Owns h hh [.box (.ptr i2 0 0) cs2, .box p [x, .int .i64 (r.at_ : Int), .bool r.bad], .sl 6 lx (t.Lots.map Lot.cs) [], .sl 3 ly (t.Uses.map Use.cs) []])
    (hc : cs2.length = 7) (hl1 : t.Lots.length ≤ 65535) (hl2 : t.Uses.length ≤ 65535)
    (hq : ∀ x' y' h', Owns h h' [.sl 6 x' ((tellEnd t r).1.Lots.map Lot.cs) [], .sl 3 y' ((tellEnd t r).1.Uses.map Use.cs) []] → Q (TellP.val (tellEnd t r) x' y') h') : tell_Get.k1 C N (dn Q) (.ptr i2 0 0) p (.agg (t.cs lx ly)) hh := by
  obtain ⟨id, rfl, hbx⟩ := ho.boxAt 1 rfl
  simp +contextual -dsimp [ldv_at hbx]
  refine B.gdb_call (fun _ _ hq => s t lx ly _ _ ⟨⟨_, ho.slAt 2 rfl⟩, ⟨_, ho.slAt 3 rfl⟩⟩ (by omega) (by omega) hq) ?_
  simp +contextual -dsimp
  refine B.cond_bool (fun h1 => ?_) (fun h1 => ?_)
  · have e : tellEnd t r = (tellZero, 0, 4) := by unfold tellEnd; rw [if_pos]; simpa using h1
    rw [e] at hq
    try simp +contextual -dsimp
    refine ho.boxStn 0 rfl rfl hc fun h2 ho2 _ => ?_
    obtain ⟨id', e', hb2⟩ := ho2.boxAt 0 rfl
    cases e'
    simp -dsimp [ldnv_at hb2]
    refine dn_same (hq .nils .nils h2 ?_)
    exact ((Owns.nil ho2.le).nils 6).nils 3
  · have e : tellEnd t r = (t, r.at_, 0) := by unfold tellEnd; rw [if_neg]; simpa using h1
    rw [e] at hq
    try simp +contextual -dsimp
    simp -dsimp [ldv_at hbx]
    refine ho.boxStn 0 rfl rfl hc fun h2 ho2 _ => ?_
    obtain ⟨id', e', hb2⟩ := ho2.boxAt 0 rfl
    cases e'
    obtain ⟨id', e', hb3⟩ := ho2.boxAt 1 rfl
    cases e'
    refine ⟨fun q hq => ?_, ?_⟩
    · rw [List.mem_singleton.1 hq]
      exact ⟨.int .i64 (r.at_ : Int), by rw [ldv_at hbx]; rfl, by rw [ldv_at hb3]; rfl⟩
    · simp -dsimp [ldnv_at hb2]
      exact dn_same (hq lx ly h2 (ho2.sub (by simp)))

theorem ref14_Get.fin (s : ref14_Right.Spec C N) {h hh : AHeap} {i2 : Nat} {p x : AVal} {cs2 : List AVal} {t : TellP} {r : Rdr} {lx ly : AVal} {Q : AVal → AHeap → Prop} (ho : Owns h hh [.box (.ptr i2 0 0) cs2, .box p [x, .int .i64 (r.at_ : Int), .bool r.bad], .sl 6 lx (t.Lots.map Lot.cs) [], .sl 3 ly (t.Uses.map Use.cs) []])
    (hc : cs2.length = 7) (hl1 : t.Lots.length ≤ 65535) (hl2 : t.Uses.length ≤ 65535)
    (hq : ∀ x' y' h', Owns h h' [.sl 6 x' ((tellEnd t r).1.Lots.map Lot.cs) [], .sl 3 y' ((tellEnd t r).1.Uses.map Use.cs) []] → Q (TellP.val (tellEnd t r) x' y') h') : ref14_Get.k1 C N (dn Q) (.ptr i2 0 0) p (.agg (t.cs lx ly)) hh := by
  obtain ⟨id, rfl, hbx⟩ := ho.boxAt 1 rfl
  simp +contextual -dsimp [ldv_at hbx]
  refine B.gdb_call (fun _ _ hq => s t lx ly _ _ ⟨⟨_, ho.slAt 2 rfl⟩, ⟨_, ho.slAt 3 rfl⟩⟩ (by omega) (by omega) hq) ?_
  simp +contextual -dsimp
  refine B.cond_bool (fun h1 => ?_) (fun h1 => ?_)
  · have e : tellEnd t r = (tellZero, 0, 4) := by unfold tellEnd; rw [if_pos]; simpa using h1
    rw [e] at hq
    try simp +contextual -dsimp
    refine ho.boxStn 0 rfl rfl hc fun h2 ho2 _ => ?_
    obtain ⟨id', e', hb2⟩ := ho2.boxAt 0 rfl
    cases e'
    simp -dsimp [ldnv_at hb2]
    refine dn_same (hq .nils .nils h2 ?_)
    exact ((Owns.nil ho2.le).nils 6).nils 3
  · have e : tellEnd t r = (t, r.at_, 0) := by unfold tellEnd; rw [if_neg]; simpa using h1
    rw [e] at hq
    try simp +contextual -dsimp
    simp -dsimp [ldv_at hbx]
    refine ho.boxStn 0 rfl rfl hc fun h2 ho2 _ => ?_
    obtain ⟨id', e', hb2⟩ := ho2.boxAt 0 rfl
    cases e'
    obtain ⟨id', e', hb3⟩ := ho2.boxAt 1 rfl
    cases e'
    refine ⟨fun q hq => ?_, ?_⟩
    · rw [List.mem_singleton.1 hq]
      exact ⟨.int .i64 (r.at_ : Int), by rw [ldv_at hbx]; rfl, by rw [ldv_at hb3]; rfl⟩
    · simp -dsimp [ldnv_at hb2]
      exact dn_same (hq lx ly h2 (ho2.sub (by simp)))

/-- The loop over uses. -/
theorem ref14_Get.uses (s1 : ref13_Reader_Number.Spec C N) {b : List UInt8} {x lx : AVal} {i2 : Nat} {p : AVal} {bs hh : AHeap} {Q : AVal → AHeap → Prop} {e i d : Int} {c : List UInt8} {s : UInt8} {z : Nat} {r1 : Rdr} (hx : ReadsAt bs x b) (hcx : lx.isCell = true) (hz : z ≤ 65535) (hr1 : r1.at_ ≤ b.length)
    (ho : Owns bs hh [.box p [x, .int .i64 (r1.at_ : Int), .bool r1.bad]])
    (hk : ∀ o h', Owns bs h' [.sl 3 o ((rList (rUse b) z r1).1.map Use.cs) [], .box p [x, .int .i64 ((rList (rUse b) z r1).2.at_ : Int), .bool (rList (rUse b) z r1).2.bad]] → ref14_Get.k1 C N Q (.ptr i2 0 0) p (.agg [.int .i64 e, .int .i64 i, .int .i64 d, .str c, .int .u8 (s.toNat : Int), lx, o]) h') :
    LoopR (ref14_Get.l3 C N Q (.ptr i2 0 0) p) [.int .i64 (z : Int), .agg [.int .i64 e, .int .i64 i, .int .i64 d, .str c, .int .u8 (s.toNat : Int), lx, .nils]] hh := by
  obtain ⟨⟨R, hxx⟩, hb⟩ := hx
  refine LoopR.intro (fun t vs hh => ∃ (o : AVal) (acc : List Use) (r : Rdr), vs = [.int .i64 (t : Int), .agg [.int .i64 e, .int .i64 i, .int .i64 d, .str c, .int .u8 (s.toNat : Int), lx, o]] ∧ t ≤ 65535 ∧ acc.length + t ≤ 65535 ∧ r.at_ ≤ b.length ∧ acc ++ (rList (rUse b) t r).1 = (rList (rUse b) z r1).1 ∧ (rList (rUse b) t r).2 = (rList (rUse b) z r1).2 ∧
      Owns bs hh [.sl 3 o (acc.map Use.cs) [], .box p [x, .int .i64 (r.at_ : Int), .bool r.bad]]) z ?_ ⟨.nils, [], r1, rfl, by omega, by simp; omega, hr1, rfl, rfl, (ho.nils 3).perm (List.Perm.swap ..)⟩
  rintro Y t vs hh ⟨o, acc, r, rfl, ht, hal, hr, e1, e2, ho⟩ hY
  obtain ⟨id, rfl, hbx⟩ := ho.boxAt 1 rfl
  simp +contextual -dsimp [ldv_at hbx]
  refine B.cond_bool (fun h2 => ?_) (fun h2 => ?_) <;> simp at h2
  · obtain ⟨t, rfl⟩ : ∃ u, t = u + 1 := ⟨t - 1, by omega⟩
    simp only [rList, h2.2, Bool.false_eq_true, if_false] at e1 e2
    obtain ⟨q1, q2⟩ := ho.out (l1 := [_]) (l2 := [_])
    have hx1 := hxx.mono q1.le
    try simp +contextual -dsimp
    refine s1 _ hh _ x b R r 8 _ hx1 hb hr (by omega) q2 fun h3 ho3 => ?_
    have l3 := rNum_le (k := 8) hr
    try simp +contextual -dsimp
    refine s1 _ _ _ x b R _ 8 _ hx1 hb l3 (by omega) ho3 fun h4 ho4 => ?_
    have l4 := rNum_le (k := 8) l3
    try simp +contextual -dsimp
    refine s1 _ _ _ x b R _ 8 _ hx1 hb l4 (by omega) ho4 fun h5 ho5 => ?_
    have ho6 := q1.join ho5
    try simp +contextual -dsimp
    refine ho6.push 0 rfl rfl (by omega) (by simp; omega) (by simp [maxLen]; omega) fun o' h7 ho7 _ => ?_
    have e4 : IntKind.i64.wrap (((t + 1 : Nat) : Int) - 1) = (t : Int) := by rw [wrap_i64 (by omega) (by omega)]; omega
    have hco := (ho7.slAt 0 rfl).isCell
    simp -dsimp only [B.al_agg, V.setF_agg, V.put1_cell, hco, cond_true, List.length_set, List.length_cons, List.length_nil, List.set, optAgg_some, B.pv_some, if_true, show 6 < 0 + 1 + 1 + 1 + 1 + 1 + 1 + 1 by omega, V.bin_sub, e4]
    refine hY t _ _ (by omega) ⟨o', acc ++ [(rUse b r).1], (rUse b r).2, rfl, by omega, by simp; omega, rUse_le hr, ?_, e2, ?_⟩
    · rw [← e1, List.append_assoc]; rfl
    · rw [List.map_append]; exact ho7
  · have : (rList (rUse b) t r) = ([], r) := by
      cases t with
      | zero => rfl
      | succ t => simp [rList, h2 (by omega)]
    rw [this, List.append_nil] at e1
    rw [this] at e2
    subst e1
    rw [← e2] at hk
    exact hk _ _ ho
theorem ref14_Get.lots (s1 : ref13_Reader_Number.Spec C N) (s2 : ref14_lot.Spec C N) {b : List UInt8} {x : AVal} {i2 : Nat} {p : AVal} {bs hh : AHeap} {Q : AVal → AHeap → Prop} {e i d : Int} {c : List UInt8} {s : UInt8} {z : Nat} {r1 : Rdr} (hx : ReadsAt bs x b) (hz : z ≤ 65535) (hr1 : r1.at_ ≤ b.length)
    (ho : Owns bs hh [.box p [x, .int .i64 (r1.at_ : Int), .bool r1.bad]])
    (hk : ∀ o h', Owns bs h' [.sl 6 o ((rList (rLot b) z r1).1.map Lot.cs) [], .box p [x, .int .i64 ((rList (rLot b) z r1).2.at_ : Int), .bool (rList (rLot b) z r1).2.bad]] →
      C (N 71) [p, .int .i64 2] h' fun v54 h => LoopR (ref14_Get.l3 C N Q (.ptr i2 0 0) p) [v54, .agg [.int .i64 e, .int .i64 i, .int .i64 d, .str c, .int .u8 (s.toNat : Int), o, .nils]] h) :
    LoopR (ref14_Get.l5 C N Q (.ptr i2 0 0) p) [.int .i64 (z : Int), .agg [.int .i64 e, .int .i64 i, .int .i64 d, .str c, .int .u8 (s.toNat : Int), .nils, .nils]] hh := by
  obtain ⟨⟨R, hxx⟩, hb⟩ := hx
  refine LoopR.intro (fun t vs hh => ∃ (o : AVal) (acc : List Lot) (r : Rdr), vs = [.int .i64 (t : Int), .agg [.int .i64 e, .int .i64 i, .int .i64 d, .str c, .int .u8 (s.toNat : Int), o, .nils]] ∧ t ≤ 65535 ∧ acc.length + t ≤ 65535 ∧ r.at_ ≤ b.length ∧ acc ++ (rList (rLot b) t r).1 = (rList (rLot b) z r1).1 ∧ (rList (rLot b) t r).2 = (rList (rLot b) z r1).2 ∧
      Owns bs hh [.sl 6 o (acc.map Lot.cs) [], .box p [x, .int .i64 (r.at_ : Int), .bool r.bad]]) z ?_ ⟨.nils, [], r1, rfl, by omega, by simp; omega, hr1, rfl, rfl, (ho.nils 6).perm (List.Perm.swap ..)⟩
  rintro Y t vs hh ⟨o, acc, r, rfl, ht, hal, hr, e1, e2, ho⟩ hY
  obtain ⟨id, rfl, hbx⟩ := ho.boxAt 1 rfl
  simp +contextual -dsimp [ldv_at hbx]
  refine B.cond_bool (fun h2 => ?_) (fun h2 => ?_) <;> simp at h2
  · obtain ⟨t, rfl⟩ : ∃ u, t = u + 1 := ⟨t - 1, by omega⟩
    simp only [rList, h2.2, Bool.false_eq_true, if_false] at e1 e2
    obtain ⟨q1, q2⟩ := ho.out (l1 := [_]) (l2 := [_])
    have hx1 := hxx.mono q1.le
    try simp +contextual -dsimp
    refine s2 _ hh _ x b R r _ hx1 hb hr q2 fun h5 ho5 => ?_
    have ho6 := q1.join ho5
    try simp +contextual -dsimp
    refine ho6.push 0 rfl rfl (by omega) (by simp; omega) (by simp [maxLen]; omega) fun o' h7 ho7 _ => ?_
    have e4 : IntKind.i64.wrap (((t + 1 : Nat) : Int) - 1) = (t : Int) := by rw [wrap_i64 (by omega) (by omega)]; omega
    have hco := (ho7.slAt 0 rfl).isCell
    simp -dsimp only [B.al_agg, V.setF_agg, V.put1_cell, hco, cond_true, List.length_set, List.length_cons, List.length_nil, List.set, optAgg_some, B.pv_some, if_true, show 5 < 0 + 1 + 1 + 1 + 1 + 1 + 1 + 1 by omega, V.bin_sub, e4]
    refine hY t _ _ (by omega) ⟨o', acc ++ [(rLot b r).1], (rLot b r).2, rfl, by omega, by simp; omega, rLot_le hr, ?_, e2, ?_⟩
    · rw [← e1, List.append_assoc]; rfl
    · rw [List.map_append]; exact ho7
  · have : (rList (rLot b) t r) = ([], r) := by
      cases t with
      | zero => rfl
      | succ t => simp [rList, h2 (by omega)]
    rw [this, List.append_nil] at e1
    rw [this] at e2
    subst e1
    rw [← e2] at hk
    exact hk _ _ ho
end Go.Ab

/- What is told: residuals: what each function does in the abstract memory, printed by a program of mine. Definitions alone. -/
set_option linter.unusedVariables false
namespace Go.Ab
end Go.Ab

/- What is proved: contracts of the statements about answers. No conditions. -/
set_option linter.unusedVariables false
set_option linter.unusedSimpArgs false
set_option maxRecDepth 100000
namespace Go.Ab
variable {C : CSem} {N : Nat → Nat}

end Go.Ab

/- What is proved: contracts of the fourth chapter's statements' functions: lists. No conditions. -/
set_option linter.unusedVariables false
set_option linter.unusedSimpArgs false
namespace Go.Ab
variable {C : CSem} {N : Nat → Nat}
end Go.Ab

/- What is proved: contract of the fourth chapter's closed statement. No conditions. -/
set_option linter.unusedVariables false
set_option linter.unusedSimpArgs false
namespace Go.Ab
variable {C : CSem} {N : Nat → Nat}
theorem litP {h : AHeap} {es n : Nat} {cs : List AVal} (L : List (List AVal)) {K : Nat → AHeap → Prop} (hc : cs = L.flatten) (hL : ∀ p ∈ L, p.length = es) (hn : n = L.length) (hK : ∀ i h', Owns h h' [.sl es (.sl i 0 0 n es n) L []] → K i h') : B.newO h (some cs) K :=
  fun i hi => hK i _ ((Owns.start h).newSl hi (by simpa using hL) hn (by simp; omega) (by simpa using hc))
def idsL : List Int := [-9223372036854775808, -1, 0, 1, 2, 9223372036854775807]
def daysL : List Int := [-9223372036854775808, -1, 0, 1, 3999, 4000, 4001, 4002, 9223372036854775807]
def qtysL : List Int := [-1, 0, 1, 1073741824, 1073741825, 9223372036854775807]
def itemsL : List (List UInt8) := [[], [65], [97], [65, 66, 67, 68, 69, 70, 71, 72, 73, 74, 75, 76, 77]]
structure Lits (h : AHeap) (vi vd vq vt : AVal) : Prop where
  i : SlX h 1 vi (idsL.map ic) []
  d : SlX h 1 vd (daysL.map ic) []
  q : SlX h 1 vq (qtysL.map ic) []
  t : SlX h 1 vt (itemsL.map tc) []
theorem Lits.mono {h H : AHeap} {vi vd vq vt : AVal} (l : Lits h vi vd vq vt) (hle : h.le H) : Lits H vi vd vq vt := ⟨l.i.mono hle, l.d.mono hle, l.q.mono hle, l.t.mono hle⟩
section
variable {h : AHeap} {v : AVal} {R : List (List AVal)} {j : Nat}
end
section
variable {h0 h : AHeap} {vi vd vq vt : AVal} {Q : AVal → AHeap → Prop} {Y5 : List AVal → AHeap → Prop}
end
end Go.Ab

/- What is proved: contracts of the statements on wants: the shared parts. No conditions. -/
set_option linter.unusedVariables false
set_option linter.unusedSimpArgs false
namespace Go.Ab
variable {C : CSem} {N : Nat → Nat}
def awL : List Lot := [⟨1, [65], 0, 5, 3, false⟩, ⟨2, [65], 0, 9, 4, false⟩]
def awW : List Want := [⟨[65], 7, 2⟩, ⟨[65], 2, 5⟩]
def awV : List Want := [⟨[65], 4, 6⟩, ⟨[65], 8, 2⟩]
theorem aw_greedy : (greedy awL awW).map (·.1) = some [⟨1, 1, 3⟩, ⟨1, 2, 2⟩, ⟨0, 2, 2⟩] := by decide
theorem aw_greedy2 : (greedy awL awV).map (·.1) = none := by decide
def law05_awake.Spec (C : CSem) (N : Nat → Nat) : Prop := ∀ (h : AHeap) (Q : AVal → AHeap → Prop), Q (.bool true) h → C (N 213) [] h Q
theorem law05_awake.spec (i : law05_awake.Imp C N) (s1 : flow_Fill.Spec C N) (s2 : flow_Fits.Spec C N) : law05_awake.Spec C N := by
  intro h Q hq
  apply i
  simp -dsimp [A.bld, repL]
  refine litP (es := 6) (n := 2) (awL.map Lot.cs) rfl (by simp [awL]) rfl fun i1 h1 o1 => ?_
  simp -dsimp [A.bld, repL]
  refine litP (es := 3) (n := 2) (awW.map Want.cs) rfl (by simp [awW]) rfl fun i2 h2 o2 => ?_
  have l1 := (o1.slAt 0 rfl).mono o2.le
  refine s1 _ _ awL awW _ _ _ _ l1 (o2.slAt 0 rfl) (by decide) (by decide) ⟨fun hn => ?_, fun us lf he _ h3 x o3 => ?_⟩
  · have := aw_greedy; rw [hn] at this; cases this
  have e := aw_greedy
  rw [he] at e
  simp only [Option.map_some, Option.some.injEq] at e
  subst e
  have a := o3.slAt 0 rfl
  have i0 : V.idxS 3 x (.int .i64 0) = some (elp 3 x 0 0) := a.idxN (i := 0) (by simp)
  have i1 : V.idxS 3 x (.int .i64 1) = some (elp 3 x 1 0) := a.idxN (i := 1) (by simp)
  have i2 : V.idxS 3 x (.int .i64 2) = some (elp 3 x 2 0) := a.idxN (i := 2) (by simp)
  have d0 := a.elem (i := 0) (c := Use.cs ⟨1, 1, 3⟩) rfl
  have d1 := a.elem (i := 1) (c := Use.cs ⟨1, 2, 2⟩) rfl
  have d2 := a.elem (i := 2) (c := Use.cs ⟨0, 2, 2⟩) rfl
  simp at d0 d1 d2
  have q0 : V.binAgg .eql [.i .i64, .i .i64, .i .i64] (.agg [.int .i64 1, .int .i64 1, .int .i64 3]) (.agg [.int .i64 1, .int .i64 1, .int .i64 3]) = some (.bool true) := useF.eql ⟨1, 1, 3⟩ ⟨1, 1, 3⟩
  have q1 : V.binAgg .eql [.i .i64, .i .i64, .i .i64] (.agg [.int .i64 1, .int .i64 2, .int .i64 2]) (.agg [.int .i64 1, .int .i64 2, .int .i64 2]) = some (.bool true) := useF.eql ⟨1, 2, 2⟩ ⟨1, 2, 2⟩
  have q2 : V.binAgg .eql [.i .i64, .i .i64, .i .i64] (.agg [.int .i64 0, .int .i64 2, .int .i64 2]) (.agg [.int .i64 0, .int .i64 2, .int .i64 2]) = some (.bool true) := useF.eql ⟨0, 2, 2⟩ ⟨0, 2, 2⟩
  simp -dsimp [a.lenSl, i0, i1, i2, q0, q1, q2, d0, d1, d2, A.bld, repL]
  refine litP (es := 3) (n := 2) (awV.map Want.cs) rfl (by simp [awV]) rfl fun i4 h4 o4 => ?_
  simp -dsimp
  have l4 := l1.mono (AHeap.le_trans o3.le o4.le)
  refine s2 _ _ awL awV _ _ _ _ l4 (o4.slAt 0 rfl) (by decide) (by decide) ?_
  have e2 : (greedy awL awV).isSome = false := by
    have := aw_greedy2
    cases hg : greedy awL awV with
    | none => rfl
    | some x => rw [hg] at this; cases this
  rw [e2]
  simp -dsimp
  exact dn_le (AHeap.le_trans o1.le (AHeap.le_trans o2.le (AHeap.le_trans o3.le o4.le))) hq
def small (L : List Lot) (W : List Want) : Bool := decide (L.length ≤ 40) && decide (W.length ≤ 60)
def law05_small.Spec (C : CSem) (N : Nat → Nat) : Prop := ∀ (x y : AVal) (L : List Lot) (W : List Want) (R S : List (List AVal)) (h : AHeap) (Q : AVal → AHeap → Prop), SlX h 6 x (L.map Lot.cs) R → SlX h 3 y (W.map Want.cs) S →
  Q (.bool (small L W)) h → C (N 214) [x, y] h Q
theorem law05_small.spec (i : law05_small.Imp C N) : law05_small.Spec C N := by
  intro x y L W R S h Q hx hy hq
  apply i
  have e1 := hx.lenSl
  have e2 := hy.lenSl
  rw [List.length_map] at e1 e2
  simp +contextual -dsimp [e1, e2]
  have : (decide (L.length ≤ 40) && decide (W.length ≤ 60)) = (decide ((L.length : Int) ≤ 40) && decide ((W.length : Int) ≤ 60)) := by rw [Bool.eq_iff_iff]; simp; omega
  rw [← this]
  exact dn_same hq
end Go.Ab

/- What is proved: contract of the document's answer: do uses serve wants? No conditions. -/
set_option linter.unusedVariables false
set_option linter.unusedSimpArgs false
namespace Go.Ab
variable {C : CSem} {N : Nat → Nat}
/-- Numbers by place. -/
def ints (n : Nat) (f : Nat → Int) : List (List AVal) := fills n fun j => [.int .i64 (f j)]
@[simp] theorem ints_len (n : Nat) (f : Nat → Int) : (ints n f).length = n := fills_len ..
theorem ints_get {n k : Nat} (f : Nat → Int) (h : k < n) : (ints n f)[k]? = some [.int .i64 (f k)] := fills_get _ h
theorem ints_congr {n : Nat} {f g : Nat → Int} (h : ∀ j, j < n → f j = g j) : ints n f = ints n g := fills_congr fun j hj => by rw [h j hj]
theorem ints_set {n k : Nat} (f : Nat → Int) (v : Int) : (ints n f).set k [.int .i64 v] = ints n fun j => if j = k then v else f j := by
  unfold ints
  rw [fills_set]
  exact fills_congr fun j _ => by by_cases e : j = k <;> simp [e]
theorem ints_step (n k : Nat) (f : Nat → Int) : ints n (fun j => if j < k + 1 then f j else 0) = ints n fun j => if j = k then f k else if j < k then f j else 0 := ints_congr fun j _ => by
  by_cases e : j = k
  · subst e; simp
  · rw [if_neg e]
    by_cases e2 : j < k
    · rw [if_pos e2, if_pos (by omega)]
    · rw [if_neg e2, if_neg (by omega)]
theorem SlX.intAt {h : AHeap} {x : AVal} {n k : Nat} {f : Nat → Int} {R : List (List AVal)} (hs : SlX h 1 x (ints n f) R) (hk : k < n) : V.idxS 1 x (.int .i64 (k : Int)) = some (elp 1 x k 0) ∧ A.ldv h (elp 1 x k 0) = some (.int .i64 (f k)) :=
  ⟨hs.idxN (by simpa using hk), hs.cell (ints_get f hk)⟩
structure LotsAt (h : AHeap) (x : AVal) (L : List Lot) (k : Nat) : Prop where
  ix : V.idxS 6 x (.int .i64 (k : Int)) = some (elp 6 x k 0)
  fa : ∀ f, V.fieldAddr f (elp 6 x k 0) = some (elp 6 x k f)
  el : ∀ l, L[k]? = some l → A.ldnv h (elp 6 x k 0) 6 = some (.agg l.cs)
  id : ∀ l, L[k]? = some l → A.ldv h (elp 6 x k 0) = some (.int .i64 l.Id)
  qty : ∀ l, L[k]? = some l → A.ldv h (elp 6 x k 4) = some (.int .i64 l.Qty)
theorem SlX.lotAt {h : AHeap} {x : AVal} {L : List Lot} {R : List (List AVal)} (hx : SlX h 6 x (L.map Lot.cs) R) {k : Nat} (hk : k < L.length) : LotsAt h x L k := by
  have g : (L.map Lot.cs)[k]? = some (L[k]).cs := by rw [List.getElem?_map, List.getElem?_eq_getElem hk]; rfl
  have kk : k < (L.map Lot.cs).length := by simpa using hk
  refine ⟨hx.idxN kk, fun f => ?_, fun l hl => ?_, fun l hl => ?_, fun l hl => ?_⟩
  · have := hx.fieldA kk 0 f; simpa using this
  all_goals rw [List.getElem?_eq_getElem hk] at hl; cases hl
  · exact hx.elem g
  · have := hx.ldv (f := 0) g (by omega); simpa using this
  · have := hx.ldv (f := 4) g (by omega); simpa using this
structure WantsAt (h : AHeap) (y : AVal) (W : List Want) (k : Nat) : Prop where
  ix : V.idxS 3 y (.int .i64 (k : Int)) = some (elp 3 y k 0)
  fa : ∀ f, V.fieldAddr f (elp 3 y k 0) = some (elp 3 y k f)
  el : A.ldnv h (elp 3 y k 0) 3 = some (.agg (wAt W k).cs)
  item : A.ldv h (elp 3 y k 0) = some (.str (wAt W k).Item)
  day : A.ldv h (elp 3 y k 1) = some (.int .i64 (wAt W k).Day)
  qty : A.ldv h (elp 3 y k 2) = some (.int .i64 (wAt W k).Qty)
theorem SlX.wantAt {h : AHeap} {y : AVal} {W : List Want} {R : List (List AVal)} (hy : SlX h 3 y (W.map Want.cs) R) {k : Nat} (hk : k < W.length) : WantsAt h y W k := by
  have g : (W.map Want.cs)[k]? = some (wAt W k).cs := by rw [List.getElem?_map, List.getElem?_eq_getElem hk, wAt_get hk]; rfl
  have kk : k < (W.map Want.cs).length := by simpa using hk
  refine ⟨hy.idxN kk, fun f => ?_, hy.elem g, ?_, ?_, ?_⟩
  · have := hy.fieldA kk 0 f; simpa using this
  · have := hy.ldv (f := 0) g (by omega); simpa using this
  · have := hy.ldv (f := 1) g (by omega); simpa using this
  · have := hy.ldv (f := 2) g (by omega); simpa using this
def lAt (L : List Lot) (k : Nat) : Lot := L.getD k ⟨0, [], 0, 0, 0, false⟩
theorem lAt_get {L : List Lot} {k : Nat} (h : k < L.length) : lAt L k = L[k] := by simp [lAt, h]
theorem lAt_some {L : List Lot} {k : Nat} (h : k < L.length) : L[k]? = some (lAt L k) := by rw [lAt_get h, List.getElem?_eq_getElem h]
theorem lAt_mem {L : List Lot} {k : Nat} (h : k < L.length) : lAt L k ∈ L := by rw [lAt_get h]; exact List.getElem_mem h
theorem lAt_inj {L : List Lot} (hn : (L.map Lot.Id).Nodup) {i j : Nat} (hi : i < L.length) (hj : j < L.length) (e : (lAt L i).Id = (lAt L j).Id) : i = j := by
  rw [lAt_get hi, lAt_get hj] at e
  exact nodup_inj hn (by simpa using hi) (by simpa using hj) (by simpa using e)
section
variable {h0 h : AHeap} {L : List Lot} {W : List Want} {U : List Use} {Q : AVal → AHeap → Prop} {x y z nd lf : AVal} {R S T : List (List AVal)}
end
end Go.Ab

/- What is proved: contract of the document's answer: what is taken of lots. No conditions. -/
set_option linter.unusedVariables false
set_option linter.unusedSimpArgs false
namespace Go.Ab
variable {C : CSem} {N : Nat → Nat}
/-- Can a lot give something to a want? -/
def can (left : Lf) (w : Want) (l : Lot) : Bool := decide (0 < left l.Id) && serves l w
theorem can_avail {s : FS5} {w : Want} {l : Lot} : can s.left w l = true ↔ l.Item = w.Item ∧ avail w s l := by
  unfold can avail
  rw [Bool.and_eq_true, decide_eq_true_eq, serves_iff]
  exact ⟨fun ⟨a, b, c⟩ => ⟨b, a, c⟩, fun ⟨b, a, c⟩ => ⟨a, b, c⟩⟩
theorem row_none {L : List Lot} {W : List Want} {p : Nat} {st : FS5} (hok : FSOk st) (h : ∀ j < L.length, can st.left (wAt W p) (lAt L j) = false) (i : Int) : (rowOf L (wAt W p)).foldl (stepU i (wAt W p)) st = st := by
  refine foldU_no _ hok (.inr fun l hl hav => ?_)
  obtain ⟨h1, h2⟩ := rowOf_mem.1 hl
  obtain ⟨j, hj, rfl⟩ := List.getElem_of_mem h1
  have := h j hj
  rw [lAt_get hj, can_avail.2 ⟨h2, hav⟩] at this
  cases this
theorem row_pick {L : List Lot} {W : List Want} {p : Nat} {st : FS5} (hok : FSOk st) (hn : (L.map Lot.Id).Nodup) {m : Nat} (hm : m < L.length) (hc : can st.left (wAt W p) (lAt L m) = true) (hmin : ∀ j < L.length, can st.left (wAt W p) (lAt L j) = true → ¬ lotCmp (lAt L j) (lAt L m) < 0) (hneed : 0 < st.need) (i : Int) :
    (rowOf L (wAt W p)).foldl (stepU i (wAt W p)) st = (rowOf L (wAt W p)).foldl (stepU i (wAt W p)) (stepU i (wAt W p) st (lAt L m)) := by
  obtain ⟨c1, c2⟩ := can_avail.1 hc
  have hr : lAt L m ∈ rowOf L (wAt W p) := rowOf_mem.2 ⟨lAt_mem hm, c1⟩
  obtain ⟨A, B', e⟩ := List.append_of_mem hr
  have hup := rowOf_up L (wAt W p)
  rw [e] at hup ⊢
  have hnd : ((A ++ lAt L m :: B').map Lot.Id).Nodup := by
    rw [← e]
    exact (sortLots_nodup hn).sublist (List.filter_sublist.map _)
  have hid : ∀ a ∈ A, a.Id ≠ (lAt L m).Id := fun a ha e2 => by
    rw [List.map_append, List.nodup_append] at hnd
    exact hnd.2.2 a.Id (List.mem_map_of_mem ha) (lAt L m).Id (by simp) e2
  refine foldU_pick hok (fun a ha hav => ?_) c2 hneed hid
  have har : a ∈ rowOf L (wAt W p) := by rw [e]; simp [ha]
  obtain ⟨a1, a2⟩ := rowOf_mem.1 har
  obtain ⟨j, hj, rfl⟩ := List.getElem_of_mem a1
  have h1 := hmin j hj (by rw [lAt_get hj]; exact can_avail.2 ⟨a2, hav⟩)
  rw [lAt_get hj] at h1
  rw [List.pairwise_append] at hup
  have h2 := hup.2.2 _ ha (lAt L m) (by simp)
  unfold lessC at h2
  rw [decide_eq_false_iff_not] at h2
  rw [lotCmp_neg] at h1 h2
  have := hid _ ha
  omega
section
variable {h0 h : AHeap} {L : List Lot} {W : List Want} {Q : AVal → AHeap → Prop} {Y1 Y2 : List AVal → AHeap → Prop} {x y lf dn' z v10 : AVal} {R S : List (List AVal)} {p : Nat} {st : FS5} {D : List (List AVal)}
/-- The least lot that can give something is taken of. -/
theorem rfill_pick (s1 : ref05_Serves.Spec C N) (s2 : ref04_Compare.Spec C N) (hx : SlX h0 6 x (L.map Lot.cs) R) (hy : SlX h0 3 y (W.map Want.cs) S) (hL : L.length ≤ 300) (hp : p < W.length)
    (hok : FSOk st) (hsm : Small st) (hn : (L.map Lot.Id).Nodup) (hneed : 0 < st.need) (hout : st.out.length ≤ 50000000)
    (o : Owns h0 h [.sl 1 dn' D [], .sl 1 lf (ints L.length fun k => st.left (lAt L k).Id) [], .sl 3 z (st.out.map Use.cs) []])
    (no : (∀ j < L.length, can st.left (wAt W p) (lAt L j) = false) → Q (.tup [.nils, .bool false]) h)
    (yes : ∀ m z' h', m < L.length → can st.left (wAt W p) (lAt L m) = true → (∀ j < L.length, can st.left (wAt W p) (lAt L j) = true → ¬ lotCmp (lAt L j) (lAt L m) < 0) →
      Owns h0 h' [.sl 1 dn' D [], .sl 1 lf (ints L.length fun k => (stepU (p : Int) (wAt W p) st (lAt L m)).left (lAt L k).Id) [], .sl 3 z' ((stepU (p : Int) (wAt W p) st (lAt L m)).out.map Use.cs) []] → Y2 [z', .int .i64 (stepU (p : Int) (wAt W p) st (lAt L m)).need] h') :
    LoopR (ref05_Fill.l3 C N Q Y1 Y2 x y lf dn' z v10 (.int .i64 (p : Int)) (.int .i64 st.need)) [.int .i64 (-1), .int .i64 0] h := by
  have e1 := hx.lenSl
  rw [List.length_map] at e1
  have hxx := hx.mono o.le
  have hyy := hy.mono o.le
  have b := hyy.wantAt hp
  have hlf := o.slAt 1 rfl
  refine LoopR.intro (fun t vs hh => hh = h ∧ ∃ (i : Nat) (k : Int), i + t = L.length ∧ vs = [.int .i64 k, .int .i64 (i : Int)] ∧ ((k = -1 ∧ ∀ j < i, can st.left (wAt W p) (lAt L j) = false) ∨ ∃ m : Nat, k = m ∧ m < L.length ∧ can st.left (wAt W p) (lAt L m) = true ∧ ∀ j < i, can st.left (wAt W p) (lAt L j) = true → ¬ lotCmp (lAt L j) (lAt L m) < 0)) L.length ?_ ⟨rfl, 0, -1, by omega, rfl, .inl ⟨rfl, fun i hi => by omega⟩⟩
  rintro Z t vs hh ⟨rfl, i, k, hit, rfl, hk⟩ hZ
  simp -dsimp only [ref05_Fill.l3, ref05_Fill.k2, e1, lssN, B.pv_some]
  refine B.cond_bool (fun hc => ?_) (fun hc => ?_) <;> simp only [decide_eq_true_eq, decide_eq_false_iff_not] at hc
  · have a := hxx.lotAt hc
    have ael := a.el _ (lAt_some hc)
    obtain ⟨c1, c2⟩ := hlf.intAt hc
    have ad := add1 (show i < 4611686018427387904 by omega)
    -- it can't
    have skip : can st.left (wAt W p) (lAt L i) = false → Z [.int .i64 k, .int .i64 ((i + 1 : Nat) : Int)] hh := fun hf => by
      refine hZ (L.length - (i + 1)) _ _ (by omega) ⟨rfl, i + 1, k, by omega, rfl, ?_⟩
      rcases hk with ⟨h1, h2⟩ | ⟨m, h1, h2, h3, h4⟩
      · refine .inl ⟨h1, fun j hj => ?_⟩
        by_cases e : j = i
        · subst e; exact hf
        · exact h2 j (by omega)
      · refine .inr ⟨m, h1, h2, h3, fun j hj hcj => ?_⟩
        by_cases e : j = i
        · subst e; rw [hf] at hcj; cases hcj
        · exact h4 j (by omega) hcj
    by_cases hpos : 0 < st.left (lAt L i).Id
    · simp -dsimp only [c1, B.ld_eq, c2, V.bin_gtr, hpos, decide_true, B.gd_t, B.gdb_true, a.ix, ael, B.ldn_eq, b.ix, b.el, B.pv_some]
      refine s1 _ _ _ _ ?_
      have hcan : can st.left (wAt W p) (lAt L i) = serves (lAt L i) (wAt W p) := by unfold can; rw [decide_eq_true hpos]; rfl
      cases hs : serves (lAt L i) (wAt W p) with
      | false =>
        simp -dsimp [ad]
        have := skip (by rw [hcan, hs])
        simpa using this
      | true =>
        rcases hk with ⟨rfl, hno⟩ | ⟨m, rfl, hm, hcm, hmin⟩
        · simp -dsimp [ad]
          have := hZ (L.length - (i + 1)) [.int .i64 (i : Int), .int .i64 ((i + 1 : Nat) : Int)] hh (by omega) ⟨rfl, i + 1, i, by omega, rfl, .inr ⟨i, rfl, hc, by rw [hcan, hs], fun j hj hcj => by
            by_cases e : j = i
            · subst e; rw [lotCmp_neg]; omega
            · rw [hno j (by omega)] at hcj; cases hcj⟩⟩
          simpa using this
        · have a' := hxx.lotAt hm
          have ael' := a'.el _ (lAt_some hm)
          simp -dsimp [a.ix, ael, a'.ix, ael', show ¬ ((m : Int) < 0) by omega]
          refine s2 _ _ _ _ ?_
          simp -dsimp [ad]
          refine B.cond_bool (fun hd => ?_) (fun hd => ?_) <;> simp only [decide_eq_true_eq, decide_eq_false_iff_not] at hd
          · have := hZ (L.length - (i + 1)) [.int .i64 (i : Int), .int .i64 ((i + 1 : Nat) : Int)] hh (by omega) ⟨rfl, i + 1, i, by omega, rfl, .inr ⟨i, rfl, hc, by rw [hcan, hs], fun j hj hcj => by
              by_cases e : j = i
              · subst e; rw [lotCmp_neg]; omega
              · have := hmin j (by omega) hcj
                rw [lotCmp_neg] at *
                omega⟩⟩
            simpa -dsimp [ad] using this
          · have := hZ (L.length - (i + 1)) [.int .i64 (m : Int), .int .i64 ((i + 1 : Nat) : Int)] hh (by omega) ⟨rfl, i + 1, m, by omega, rfl, .inr ⟨m, rfl, hm, hcm, fun j hj hcj => by
              by_cases e : j = i
              · subst e; exact hd
              · exact hmin j (by omega) hcj⟩⟩
            simpa -dsimp [ad] using this
    · simp -dsimp [c1, c2, hpos, ad]
      have := skip (by unfold can; rw [decide_eq_false hpos]; rfl)
      simpa using this
  · rcases hk with ⟨rfl, hno⟩ | ⟨m, rfl, hm, hcm, hmin⟩
    · simp -dsimp
      exact no fun j hj => hno j (by omega)
    · have a := hxx.lotAt hm
      obtain ⟨c1, c2⟩ := hlf.intAt hm
      have tk := takeOf_nn hok (lAt L m)
      obtain ⟨m1, m2⟩ := can_avail.1 hcm
      have tp : 0 < takeOf st (lAt L m) := by have := m2.1; unfold takeOf; omega
      have k1 := hsm.left (lAt L m).Id
      have k2 := hsm.need
      have k3 := hok.left (lAt L m).Id
      have hst : stepU (p : Int) (wAt W p) st (lAt L m) = ⟨fun n => if n = (lAt L m).Id then st.left (lAt L m).Id - takeOf st (lAt L m) else st.left n, st.need - takeOf st (lAt L m), st.out ++ [⟨(p : Int), (lAt L m).Id, takeOf st (lAt L m)⟩]⟩ := by
        unfold stepU; rw [if_neg]; intro hcc
        rcases hcc with hcc | hcc
        · omega
        · rw [m2.2] at hcc; cases hcc
      have hte : min st.need (st.left (lAt L m).Id) = takeOf st (lAt L m) := rfl
      have yy := yes m
      rw [hst] at yy
      have lb : V.bin .lss (.int .i64 (m : Int)) (.int .i64 0) = some (.bool false) := by rw [V.bin_lss, decide_eq_false (by omega)]
      simp -dsimp only [ref05_Fill.k1, lb, B.cond_false, c1, B.ld_eq, c2, V.min2_int, hte, V.bin_sub, B.pv_some]
      rw [wrap_i64 (n := st.left (lAt L m).Id - takeOf st (lAt L m)) (by omega) (by omega)]
      refine o.st 1 rfl (i := m) (f := 0) (ints_get _ hm) (by omega) rfl fun h2 o2 _ => ?_
      have es1 : ∀ (a b : AVal), ([a].set 0 b) = [b] := fun _ _ => rfl
      simp only [List.set_cons_zero, List.set_cons_succ, es1, ints_set] at o2
      have a2 := (hx.mono o2.le).lotAt hm
      have a0 := a2.fa 0
      simp -dsimp only [V.bin_sub, a2.ix, a0, B.ld_eq, a2.id _ (lAt_some hm), bldUse, fillUse1, B.pv_some]
      rw [wrap_i64 (n := st.need - takeOf st (lAt L m)) (by omega) (by omega)]
      refine o2.push 2 rfl (cs := Use.cs ⟨(p : Int), (lAt L m).Id, takeOf st (lAt L m)⟩) rfl (by omega) (by simp; omega) (by simp [maxLen]; omega) fun z' h3 o3 _ => ?_
      refine yy z' h3 hm hcm (fun j hj hcj => hmin j (by omega) hcj) ?_
      simp only [List.set_cons_zero, List.set_cons_succ] at o3
      have q2 : (ints L.length fun k => if (lAt L k).Id = (lAt L m).Id then st.left (lAt L m).Id - takeOf st (lAt L m) else st.left (lAt L k).Id) = ints L.length fun j => if j = m then st.left (lAt L m).Id - takeOf st (lAt L m) else st.left (lAt L j).Id := ints_congr fun j hj => by
        by_cases e : j = m
        · subst e; rw [if_pos rfl, if_pos rfl]
        · rw [if_neg e, if_neg fun e2 => e (lAt_inj hn hj hm e2)]
      simp only
      rw [q2]
      simpa using o3
end
end Go.Ab

/- What is proved: contract of the document's answer: what is taken of lots, all together. No conditions. -/
set_option linter.unusedVariables false
set_option linter.unusedSimpArgs false
namespace Go.Ab
variable {C : CSem} {N : Nat → Nat}
theorem stepU_grow (i : Int) (w : Want) (s : FS5) (l : Lot) : s.out.length ≤ (stepU i w s l).out.length ∧ (stepU i w s l).out.length ≤ s.out.length + 1 := by
  unfold stepU; split
  · exact ⟨Nat.le_refl _, by omega⟩
  · simp
theorem foldU_grow {i : Int} {w : Want} : ∀ (S : List Lot) {s : FS5}, s.out.length ≤ (S.foldl (stepU i w) s).out.length ∧ (S.foldl (stepU i w) s).out.length ≤ s.out.length + S.length
  | [], _ => ⟨Nat.le_refl _, by simp⟩
  | l :: S, s => by
    have h1 := stepU_grow i w s l
    have h2 := foldU_grow (i := i) (w := w) S (s := stepU i w s l)
    simp only [List.foldl_cons, List.length_cons]
    omega
section
variable {h0 h : AHeap} {L : List Lot} {W : List Want} {Q : AVal → AHeap → Prop} {Y1 : List AVal → AHeap → Prop} {x y lf dn' z : AVal} {R S : List (List AVal)} {p n : Nat} {st : FS5} {D : List (List AVal)}
/-- One want. -/
theorem rfill_want (s1 : ref05_Serves.Spec C N) (s2 : ref04_Compare.Spec C N) (hx : SlX h0 6 x (L.map Lot.cs) R) (hy : SlX h0 3 y (W.map Want.cs) S) (hL : L.length ≤ 300) (hp : p < W.length)
    (hok : FSOk st) (hsm : Small st) (hn : (L.map Lot.Id).Nodup) (hout : st.out.length ≤ 40000000) (hnn : n < 4611686018427387904)
    (o : Owns h0 h [.sl 1 dn' D [], .sl 1 lf (ints L.length fun k => st.left (lAt L k).Id) [], .sl 3 z (st.out.map Use.cs) []])
    (no : ∀ h', h0.le h' → 0 < ((rowOf L (wAt W p)).foldl (stepU (p : Int) (wAt W p)) st).need → Q (.tup [.nils, .bool false]) h')
    (yes : ∀ z' h', ((rowOf L (wAt W p)).foldl (stepU (p : Int) (wAt W p)) st).need = 0 →
      Owns h0 h' [.sl 1 dn' D [], .sl 1 lf (ints L.length fun k => ((rowOf L (wAt W p)).foldl (stepU (p : Int) (wAt W p)) st).left (lAt L k).Id) [], .sl 3 z' (((rowOf L (wAt W p)).foldl (stepU (p : Int) (wAt W p)) st).out.map Use.cs) []] → Y1 [z', .int .i64 ((n + 1 : Nat) : Int)] h') :
    LoopR (ref05_Fill.l5 C N Q Y1 x y lf dn' (.int .i64 (n : Int)) (.int .i64 (p : Int))) [z, .int .i64 st.need] h := by
  have gr0 := foldU_grow (i := (p : Int)) (w := wAt W p) (rowOf L (wAt W p)) (s := st)
  have rl := rowOf_le L (wAt W p)
  refine LoopR.intro (fun t vs hh => ∃ (z : AVal) (s : FS5), t = s.need.toNat ∧ vs = [z, .int .i64 s.need] ∧ Owns h0 hh [.sl 1 dn' D [], .sl 1 lf (ints L.length fun k => s.left (lAt L k).Id) [], .sl 3 z (s.out.map Use.cs) []] ∧ FSOk s ∧ Small s ∧
    (rowOf L (wAt W p)).foldl (stepU (p : Int) (wAt W p)) s = (rowOf L (wAt W p)).foldl (stepU (p : Int) (wAt W p)) st) st.need.toNat ?_ ⟨z, st, rfl, rfl, o, hok, hsm, rfl⟩
  rintro Y t vs hh ⟨z, s, rfl, rfl, o, hok, hsm, he⟩ hY
  simp -dsimp only [ref05_Fill.l5, ref05_Fill.k4, V.bin_gtr, B.pv_some]
  have gr := foldU_grow (i := (p : Int)) (w := wAt W p) (rowOf L (wAt W p)) (s := s)
  rw [he] at gr
  refine B.cond_bool (fun hc => ?_) (fun hc => ?_) <;> simp only [decide_eq_true_eq, decide_eq_false_iff_not] at hc
  · refine rfill_pick s1 s2 hx hy hL hp hok hsm hn hc (by omega) o (fun hno => no hh o.le ?_) fun m z' h' hm hcm hmin o' => ?_
    · rw [← he, row_none hok hno]; exact hc
    · have tk := takeOf_nn hok (lAt L m)
      obtain ⟨m1, m2⟩ := can_avail.1 hcm
      have tp : 0 < takeOf s (lAt L m) := by have := m2.1; unfold takeOf; omega
      have hst : (stepU (p : Int) (wAt W p) s (lAt L m)).need = s.need - takeOf s (lAt L m) := by
        unfold stepU; rw [if_neg]; intro hcc
        rcases hcc with hcc | hcc
        · omega
        · rw [m2.2] at hcc; cases hcc
      refine hY _ _ _ (by rw [show (stepU (p : Int) (wAt W p) s (lAt L m)).need.toNat = (s.need - takeOf s (lAt L m)).toNat by rw [hst]]; omega) ⟨z', stepU (p : Int) (wAt W p) s (lAt L m), rfl, rfl, o', stepU_ok hok _ _ _, stepU_small hok hsm _ _ _, ?_⟩
      rw [← row_pick hok hn hm hcm hmin hc]; exact he
  · have h0n : s.need = 0 := by have := hok.need; omega
    have ef := foldU_no (i := (p : Int)) (w := wAt W p) (rowOf L (wAt W p)) hok (.inl h0n)
    rw [he] at ef
    simp -dsimp only [add1 hnn, B.pv_some]
    refine yes z hh (by rw [ef]; exact h0n) ?_
    rw [ef]; exact o
/-- Which wants are done after n of them. -/
def doneB (W : List Want) (n : Nat) (j : Nat) : Bool := ((dayOrder W).take n).any fun a => decide (a.val = j)
theorem done_min {W : List Want} {n m : Nat} (hn : n < W.length) (hm : m < W.length) (hu : doneB W n m = false) (hmin : ∀ j < W.length, doneB W n j = false → j = m ∨ bef W m j) : ((dayOrder W)[n]'(by rw [dayOrder_len]; exact hn)).val = m := by
  have hl : n < (dayOrder W).length := by rw [dayOrder_len]; exact hn
  have hup := dayOrder_up W
  have hnd := dayOrder_nodup W
  have hund : doneB W n ((dayOrder W)[n]).val = false := by
    unfold doneB
    rw [List.any_eq_false]
    intro a ha
    simp only [decide_eq_true_eq]
    intro e
    obtain ⟨i, hi, rfl⟩ := List.getElem_of_mem ha
    rw [List.length_take] at hi
    rw [List.getElem_take] at e
    have := hup
    rw [List.pairwise_iff_getElem] at this
    have h1 := this i n (by omega) hl (by omega)
    rw [Fin.ext e] at h1
    exact before_irr W _ h1
  rcases hmin _ ((dayOrder W)[n]).2 hund with e | hb
  · exact e
  · exfalso
    -- m stands at a place that is not before n
    obtain ⟨i, hi, ei⟩ := List.getElem_of_mem (dayOrder_mem W ⟨m, hm⟩)
    have hin : ¬ i < n := fun h => by
      unfold doneB at hu
      rw [List.any_eq_false] at hu
      have := hu (dayOrder W)[i] (by rw [List.mem_iff_getElem]; exact ⟨i, by rw [List.length_take]; omega, by rw [List.getElem_take]⟩)
      simp only [decide_eq_true_eq] at this
      exact this (by rw [ei])
    rcases Nat.lt_or_ge n i with h | h
    · have := (List.pairwise_iff_getElem.1 hup) n i hl hi h
      rw [ei] at this
      exact bef_asym hb (bef_of this)
    · have : i = n := by omega
      subst this
      rw [ei] at hb
      exact bef_asym hb hb
def boolsB (n : Nat) (f : Nat → Bool) : List (List AVal) := fills n fun j => [.bool (f j)]
theorem boolsB_get {n k : Nat} (f : Nat → Bool) (h : k < n) : (boolsB n f)[k]? = some [.bool (f k)] := fills_get _ h
theorem boolsB_set {n k : Nat} (f : Nat → Bool) (v : Bool) : (boolsB n f).set k [.bool v] = boolsB n fun j => if j = k then v else f j := by
  unfold boolsB
  rw [fills_set]
  exact fills_congr fun j _ => by by_cases e : j = k <;> simp [e]
theorem SlX.boolAt {h : AHeap} {x : AVal} {n k : Nat} {f : Nat → Bool} {R : List (List AVal)} (hs : SlX h 1 x (boolsB n f) R) (hk : k < n) : V.idxS 1 x (.int .i64 (k : Int)) = some (elp 1 x k 0) ∧ A.ldv h (elp 1 x k 0) = some (.bool (f k)) :=
  ⟨hs.idxN (by simpa [boolsB] using hk), hs.cell (boolsB_get f hk)⟩
/-- The next want. -/
theorem rfill_next (hy : SlX h0 3 y (W.map Want.cs) S) (hW : W.length ≤ 20000) (hn : n < W.length)
    (o : Owns h0 h [.sl 1 dn' (boolsB W.length (doneB W n)) [], .sl 1 lf (ints L.length fun k => st.left (lAt L k).Id) [], .sl 3 z (st.out.map Use.cs) []])
    (hk : ∀ h', Owns h0 h' [.sl 1 dn' (boolsB W.length (doneB W (n + 1))) [], .sl 1 lf (ints L.length fun k => st.left (lAt L k).Id) [], .sl 3 z (st.out.map Use.cs) []] →
      ref05_Fill.k6 C N Q Y1 x y lf dn' z (.int .i64 (n : Int)) (.int .i64 (((dayOrder W)[n]'(by rw [dayOrder_len]; exact hn)).val : Int)) h') :
    LoopR (ref05_Fill.l8 C N Q Y1 x y lf dn' z (.int .i64 (n : Int))) [.int .i64 (-1), .int .i64 0] h := by
  have e2 := hy.lenSl
  rw [List.length_map] at e2
  have hyy := hy.mono o.le
  have hd := o.slAt 0 rfl
  refine LoopR.intro (fun t vs hh => hh = h ∧ ∃ (i : Nat) (k : Int), i + t = W.length ∧ vs = [.int .i64 k, .int .i64 (i : Int)] ∧ ((k = -1 ∧ ∀ j < i, doneB W n j = true) ∨ ∃ m : Nat, k = m ∧ m < i ∧ m < W.length ∧ doneB W n m = false ∧ ∀ j < i, doneB W n j = false → j = m ∨ bef W m j)) W.length ?_ ⟨rfl, 0, -1, by omega, rfl, .inl ⟨rfl, fun i hi => by omega⟩⟩
  rintro Z t vs hh ⟨rfl, i, k, hit, rfl, hk'⟩ hZ
  simp -dsimp only [ref05_Fill.l8, ref05_Fill.k7, e2, lssN, B.pv_some]
  refine B.cond_bool (fun hc => ?_) (fun hc => ?_) <;> simp only [decide_eq_true_eq, decide_eq_false_iff_not] at hc
  · have b := hyy.wantAt hc
    obtain ⟨c1, c2⟩ := hd.boolAt hc
    have ad := add1 (show i < 4611686018427387904 by omega)
    have go : ∀ k : Int, ((k = -1 ∧ ∀ j < i + 1, doneB W n j = true) ∨ ∃ m : Nat, k = m ∧ m < i + 1 ∧ m < W.length ∧ doneB W n m = false ∧ ∀ j < i + 1, doneB W n j = false → j = m ∨ bef W m j) → Z [.int .i64 k, .int .i64 ((i + 1 : Nat) : Int)] hh := fun k hk => hZ (W.length - (i + 1)) _ _ (by omega) ⟨rfl, i + 1, k, by omega, rfl, hk⟩
    cases hdn : doneB W n i with
    | true =>
      rw [hdn] at c2
      simp -dsimp [c1, c2, ad]
      have := go k (by
        rcases hk' with ⟨h1, h2⟩ | ⟨m, h1, h2, h3, h4, h5⟩
        · refine .inl ⟨h1, fun j hj => ?_⟩
          by_cases e : j = i
          · subst e; exact hdn
          · exact h2 j (by omega)
        · refine .inr ⟨m, h1, by omega, h3, h4, fun j hj hjd => ?_⟩
          by_cases e : j = i
          · subst e; rw [hdn] at hjd; cases hjd
          · exact h5 j (by omega) hjd)
      simpa using this
    | false =>
      rw [hdn] at c2
      rcases hk' with ⟨h1, h2⟩ | ⟨m, h1, h2, h3, h4, h5⟩
      · simp -dsimp [c1, c2, ad, h1]
        have := go i (.inr ⟨i, rfl, by omega, hc, hdn, fun j hj hjd => by
          by_cases e : j = i
          · exact .inl e
          · rw [h2 j (by omega)] at hjd; cases hjd⟩)
        simpa using this
      · have b' := hyy.wantAt h3
        simp -dsimp [h1, c1, c2, b.ix, b.fa, b.day, b'.ix, b'.fa, b'.day, show ¬ ((m : Int) < 0) by omega]
        refine B.cond_bool (fun hf => ?_) (fun hf => ?_) <;> simp only [decide_eq_true_eq, decide_eq_false_iff_not] at hf
        · have := go i (.inr ⟨i, rfl, by omega, hc, hdn, fun j hj hjd => by
            by_cases e : j = i
            · exact .inl e
            · right
              rcases h5 j (by omega) hjd with rfl | hb
              · exact .inl hf
              · unfold bef at *; omega⟩)
          simpa -dsimp [ad] using this
        · have := go m (.inr ⟨m, rfl, by omega, h3, h4, fun j hj hjd => by
            by_cases e : j = i
            · subst e; right; unfold bef; omega
            · exact h5 j (by omega) hjd⟩)
          simpa -dsimp [ad, h1] using this
  · have hl : n < (dayOrder W).length := by rw [dayOrder_len]; exact hn
    rcases hk' with ⟨h1, h2⟩ | ⟨m, h1, h2, h3, h4, h5⟩
    · exfalso
      -- n wants are done, there are more
      have hund := h2 ((dayOrder W)[n]).val (by have := ((dayOrder W)[n]).2; omega)
      unfold doneB at hund
      rw [List.any_eq_true] at hund
      obtain ⟨a, ha, e⟩ := hund
      simp only [decide_eq_true_eq] at e
      obtain ⟨i', hi', rfl⟩ := List.getElem_of_mem ha
      rw [List.length_take] at hi'
      rw [List.getElem_take] at e
      have h1 := (List.pairwise_iff_getElem.1 (dayOrder_up W)) i' n (by omega) hl (by omega)
      rw [Fin.ext e] at h1
      exact before_irr W _ h1
    · have hmn := done_min hn h3 h4 fun j hj hjd => h5 j (by omega) hjd
      obtain ⟨c1, c2⟩ := hd.boolAt h3
      simp -dsimp only [h1, c1, B.pv_some]
      refine o.st 0 rfl (i := m) (f := 0) (boolsB_get _ h3) (by omega) rfl fun h2' o2 _ => ?_
      have es1 : ∀ (a b : AVal), ([a].set 0 b) = [b] := fun _ _ => rfl
      simp only [List.set_cons_zero, es1, boolsB_set] at o2
      have := hk h2' (by
        have e : (fun j => if j = m then true else doneB W n j) = doneB W (n + 1) := by
          funext j
          unfold doneB
          rw [take_one hl, List.any_append]
          by_cases e : j = m
          · rw [if_pos e]; simp [hmn, e]
          · rw [if_neg e]; simp [hmn, Ne.symm e]
        rw [← e]; exact o2)
      rw [hmn, ← h1] at this
      exact this
end
end Go.Ab

/- What is proved: Hall's condition by the wants themselves: in any order, with fewer wants, with more lots. No program in sight. No conditions. -/
set_option linter.unusedVariables false
set_option linter.unusedSimpArgs false
namespace Go.Ab
theorem sumF_map {α β : Type} (f : β → Int) (g : α → β) : ∀ l : List α, sumF f (l.map g) = sumF (fun a => f (g a)) l
  | [] => rfl
  | a :: l => by simp only [List.map_cons, sumF]; rw [sumF_map f g l]
theorem sumF_append {α : Type} (f : α → Int) : ∀ l m : List α, sumF f (l ++ m) = sumF f l + sumF f m
  | [], m => by simp [sumF]
  | a :: l, m => by simp only [List.cons_append, sumF]; rw [sumF_append f l m]; omega
theorem sumF_perm {α : Type} (f : α → Int) {l m : List α} (h : l.Perm m) : sumF f l = sumF f m := by
  induction h with
  | nil => rfl
  | cons a _ ih => simp only [sumF]; rw [ih]
  | swap a b l => simp only [sumF]; omega
  | trans _ _ i j => rw [i, j]
theorem wAt_in {W : List Want} {i : Nat} (h : i < W.length) : wAt W i ∈ W := by rw [wAt_get h]; exact List.getElem_mem h
def wantS' (W : List Want) (T : Want → Bool) : Int := sumF (fun w => bif T w then w.Qty else 0) W
def haveS (L : List Lot) (W : List Want) (T : Want → Bool) : Int := sumF (fun l => bif W.any (fun w => T w && serves l w) then l.Qty else 0) L
def HallW (L : List Lot) (W : List Want) : Prop := ∀ T : Want → Bool, wantS' W T ≤ haveS L W T
theorem HallW.perm {L : List Lot} {W V : List Want} (hp : W.Perm V) (h : HallW L W) : HallW L V := fun T => by
  have := h T
  unfold wantS' haveS at *
  rw [sumF_perm _ hp] at this
  have e : ∀ l, (W.any fun w => T w && serves l w) = V.any fun w => T w && serves l w := fun l => by
    rw [Bool.eq_iff_iff, List.any_eq_true, List.any_eq_true]
    simp only [hp.mem_iff]
  simp only [e] at this
  exact this
theorem HallW.less {L : List Lot} {W : List Want} {w : Want} (hq : 0 ≤ w.Qty) (h : HallW L (w :: W)) : HallW L W := fun T => by
  have := h fun v => T v && decide (v ∈ W)
  unfold wantS' haveS at *
  simp only [sumF] at this
  have h1 : sumF (fun v => bif T v && decide (v ∈ W) then v.Qty else 0) W = sumF (fun v => bif T v then v.Qty else 0) W := sumF_congr fun v hv => by simp [hv]
  have h2 : 0 ≤ (bif T w && decide (w ∈ W) then w.Qty else 0) := by
    cases T w && decide (w ∈ W)
    · exact Int.le_refl _
    · exact hq
  have h3 : sumF (fun l => bif (w :: W).any (fun v => (T v && decide (v ∈ W)) && serves l v) then l.Qty else 0) L = sumF (fun l => bif W.any (fun v => T v && serves l v) then l.Qty else 0) L := sumF_congr fun l _ => by
    have : ((w :: W).any fun v => (T v && decide (v ∈ W)) && serves l v) = W.any fun v => T v && serves l v := by
      rw [Bool.eq_iff_iff]
      simp only [List.any_eq_true, Bool.and_eq_true, decide_eq_true_eq, List.mem_cons]
      constructor
      · rintro ⟨v, _, ⟨a, b⟩, c⟩; exact ⟨v, b, a, c⟩
      · rintro ⟨v, b, a, c⟩; exact ⟨v, .inr b, ⟨a, b⟩, c⟩
    rw [this]
  rw [h3] at this
  omega
/-- Nothing is lost. -/
theorem chk_sum {L : List Lot} {W : List Want} (hn : (L.map Lot.Id).Nodup) : ∀ {us : List Use} {s s' : CS}, chkRun L W s us = some s' → sumF (fun l => s.left l.Id) L = sumF (fun l => s'.left l.Id) L + sumF Use.Qty us ∧ ∀ u ∈ us, 1 ≤ u.Qty
  | [], s, s', h => by cases h; simp [sumF]
  | u :: us, s, s', h => by
    obtain ⟨l, h1, h2, h3, h4⟩ := chkRun_cons h
    have ih := chk_sum hn h4
    have e : sumF (fun l => (chkStep s u).left l.Id) L = sumF (fun l => s.left l.Id) L + -u.Qty := sumF_upd (a := l) (nodup_of_map hn) h1 (fun b hb hne => by
      have : b.Id ≠ u.Lot := fun e => hne (id_inj hn hb h1 (by rw [e, h2]))
      simp [chkStep, this]) (by simp [chkStep, h2]; omega)
    refine ⟨?_, fun v hv => ?_⟩
    · simp only [sumF]; omega
    · rcases List.mem_cons.1 hv with rfl | hv
      · exact h3.q
      · exact ih.2 v hv
end Go.Ab

/- What is proved: contracts of the document's answers: Fill, Left. No conditions. -/
set_option linter.unusedVariables false
set_option linter.unusedSimpArgs false
namespace Go.Ab
variable {C : CSem} {N : Nat → Nat}
def ref05_Fill.Spec (C : CSem) (N : Nat → Nat) : Prop := ∀ (x y : AVal) (L : List Lot) (W : List Want) (R S : List (List AVal)) (h : AHeap) (Q : AVal → AHeap → Prop), SlX h 6 x (L.map Lot.cs) R → SlX h 3 y (W.map Want.cs) S → L.length < 4611686018427387904 → W.length < 4611686018427387904 →
  FillQ L W h Q → C (N 220) [x, y] h Q
theorem ref05_Fill.spec (i : ref05_Fill.Imp C N) (s1 : ref05_May.Spec C N) (s2 : ref05_Serves.Spec C N) (s3 : ref04_Compare.Spec C N) : ref05_Fill.Spec C N := by
  intro x y L W R S h Q hx hy hlen hlen2 hq
  apply i
  have e1 := hx.lenSl
  have e2 := hy.lenSl
  rw [List.length_map] at e1 e2
  simp -dsimp only [ref05_Fill.cps, ref05_Fill.k14]
  refine s1 _ _ _ _ _ _ _ _ hx hy hlen hlen2 ?_
  simp -dsimp only [V.un_not, B.pv_some]
  cases hm : mayBe L W with
  | false =>
    simp -dsimp only [Bool.not_false, B.cond_true]
    exact dn_same (hq.1 (by unfold greedy; rw [hm]; rfl))
  | true =>
    have hgr : greedy L W = fillAll L W (dayOrder W) (left0 L) [] := by unfold greedy; rw [hm]; rfl
    obtain ⟨f1, f2, f3, f4, f5⟩ := mayBe_facts hm
    have es1 : ∀ (a b : AVal), ([a].set 0 b) = [b] := fun _ _ => rfl
    simp -dsimp only [Bool.not_true, B.cond_false, e1, B.pv_some]
    refine ⟨by omega, ?_⟩
    have t2 : (W.length : Int).toNat = W.length := by omega
    have t1 : (L.length : Int).toNat = L.length := by omega
    refine (Owns.start h).mks (bytes := 8) (es := 1) rfl (by omega) (by omega) (by omega) (by omega) fun lf h3 o3 => ?_
    simp only [List.nil_append, t1] at o3
    refine LoopR.intro (fun t vs hh => ∃ k : Nat, k + t = L.length ∧ vs = [.int .i64 (k : Int)] ∧ Owns h hh [.sl 1 lf (ints L.length fun j => if j < k then (lAt L j).Qty else 0) []]) L.length ?_ ⟨0, by omega, rfl, by simpa [ints] using o3⟩
    rintro Y t vs hh ⟨k, hkt, rfl, o⟩ hY
    simp -dsimp only [ref05_Fill.l13, ref05_Fill.k12, e1, lssN, B.pv_some]
    refine B.cond_bool (fun hc => ?_) (fun hc => ?_) <;> simp only [decide_eq_true_eq, decide_eq_false_iff_not] at hc
    · have b := (hx.mono o.le).lotAt hc
      obtain ⟨c1, c2⟩ := (o.slAt 0 rfl).intAt hc
      simp -dsimp only [b.ix, b.fa, B.ld_eq, b.qty _ (lAt_some hc), c1, B.pv_some]
      refine o.st 0 rfl (i := k) (f := 0) (ints_get _ hc) (by omega) rfl fun h2 o2 _ => ?_
      simp only [List.set_cons_zero, List.set_cons_succ, es1, ints_set] at o2
      simp -dsimp only [add1 (show k < 4611686018427387904 by omega), B.pv_some]
      refine hY (L.length - (k + 1)) _ _ (by omega) ⟨k + 1, by omega, rfl, ?_⟩
      rw [ints_step L.length k fun j => (lAt L j).Qty]; exact o2
    · have o : Owns h hh [.sl 1 lf (ints L.length fun k => left0 L (lAt L k).Id) []] := by
        rw [ints_congr (n := L.length) (g := fun k => left0 L (lAt L k).Id) fun j hj => by
          rw [if_pos (by omega), left0_of f4 (lAt_mem hj)]] at o
        exact o
      clear hY
      simp -dsimp only [ref05_Fill.k11, e2, B.pv_some]
      refine ⟨by omega, ?_⟩
      refine o.mks (bytes := 1) (es := 1) rfl (by omega) (by omega) (by omega) (by omega) fun dn' h4 o4 => ?_
      simp only [List.cons_append, List.nil_append, t2, Nat.sub_self, fills_zero] at o4
      have o5 := (o4.perm (l' := [.sl 1 dn' (fills W.length fun _ => [.bool false]) [], .sl 1 lf (ints L.length fun k => left0 L (lAt L k).Id) []]) (List.Perm.swap _ _ _)).nils 3
      simp only [List.cons_append, List.nil_append] at o5
      have ed : (fills W.length fun _ => [AVal.bool false]) = boolsB W.length (doneB W 0) := fills_congr fun j _ => by simp [doneB]
      rw [ed] at o5
      refine LoopR.intro (fun t vs hh => ∃ (n : Nat) (z : AVal) (lf' : Lf) (out : List Use), n + t = W.length ∧ vs = [z, .int .i64 (n : Int)] ∧ Owns h hh [.sl 1 dn' (boolsB W.length (doneB W n)) [], .sl 1 lf (ints L.length fun k => lf' (lAt L k).Id) [], .sl 3 z (out.map Use.cs) []] ∧ Bnd lf' ∧ out.length ≤ 300 * n ∧
        fillAll L W ((dayOrder W).drop n) lf' out = greedy L W) W.length ?_ ⟨0, .nils, left0 L, [], by omega, rfl, o5, left0_bnd f3, by simp, by rw [hgr]; rfl⟩
      rintro Y t vs hh ⟨n, z, lf', out, hnt, rfl, o, hB, hol, hf⟩ hY
      simp -dsimp only [ref05_Fill.l10, ref05_Fill.k9, e2, lssN, B.pv_some]
      refine B.cond_bool (fun hb => ?_) (fun hb => ?_) <;> simp only [decide_eq_true_eq, decide_eq_false_iff_not] at hb
      · have hk' : n < (dayOrder W).length := by rw [dayOrder_len]; exact hb
        have hd : (dayOrder W).drop n = (dayOrder W)[n] :: (dayOrder W).drop (n + 1) := List.drop_eq_getElem_cons hk'
        rw [hd, fillAll_cons] at hf
        have wr := wantRight_facts (f5 W[(dayOrder W)[n]] (List.getElem_mem _))
        have hw : wAt W ((dayOrder W)[n]).val = W[(dayOrder W)[n]] := wAt_get ((dayOrder W)[n]).2
        refine rfill_next (st := ⟨lf', W[(dayOrder W)[n]].Qty, out⟩) hy f2 hb o fun h6 o6 => ?_
        have b := (hy.mono o6.le).wantAt ((dayOrder W)[n]).2
        simp -dsimp only [ref05_Fill.k6, b.ix, b.fa, B.ld_eq, b.qty, B.pv_some, hw]
        have hok : FSOk ⟨lf', W[(dayOrder W)[n]].Qty, out⟩ := ⟨hB.nn, by simp only; omega⟩
        have hsm : Small ⟨lf', W[(dayOrder W)[n]].Qty, out⟩ := ⟨hB.le, by simp only; omega⟩
        have e : (rowOf L (wAt W ((dayOrder W)[n]).val)).foldl (stepU (((dayOrder W)[n]).val : Int) (wAt W ((dayOrder W)[n]).val)) ⟨lf', W[(dayOrder W)[n]].Qty, out⟩ = fillOne L (((dayOrder W)[n]).val : Int) W[(dayOrder W)[n]] lf' out := by unfold fillOne; rw [hw]
        have hok' : FSOk (fillOne L (((dayOrder W)[n]).val : Int) W[(dayOrder W)[n]] lf' out) := foldU_ok _ hok
        have hsm' : Small (fillOne L (((dayOrder W)[n]).val : Int) W[(dayOrder W)[n]] lf' out) := foldU_small _ hok hsm
        have gr := foldU_grow (i := (((dayOrder W)[n]).val : Int)) (w := wAt W ((dayOrder W)[n]).val) (rowOf L (wAt W ((dayOrder W)[n]).val)) (s := ⟨lf', W[(dayOrder W)[n]].Qty, out⟩)
        rw [e] at gr
        have rl := rowOf_le L (wAt W ((dayOrder W)[n]).val)
        refine rfill_want (st := ⟨lf', W[(dayOrder W)[n]].Qty, out⟩) s2 s3 hx hy f1 ((dayOrder W)[n]).2 hok hsm f4 (by simp only; omega) (by omega) o6 (fun h' hle hp => ?_) fun z' h' h0n o' => ?_
        · rw [e] at hp
          rw [if_pos hp] at hf
          exact dn_le hle (hq.1 hf.symm)
        · rw [e] at h0n o'
          rw [if_neg (by omega)] at hf
          exact hY (W.length - (n + 1)) _ _ (by omega) ⟨n + 1, z', _, _, by omega, rfl, o', ⟨hok'.left, hsm'.left⟩, by simp only at gr; omega, hf⟩
      · rw [List.drop_eq_nil_of_le (by rw [dayOrder_len]; omega)] at hf
        exact dn_same (hq.2 out lf' hf.symm (by omega) hh z (o.sub (by simp)))
end Go.Ab

/- What is proved: contract of the statement that what is filled serves. No conditions. -/
set_option linter.unusedVariables false
set_option linter.unusedSimpArgs false
namespace Go.Ab
variable {C : CSem} {N : Nat → Nat}
theorem sum_take {α : Type} {f : α → Int} {L : List α} {k : Nat} (hk : k < L.length) : sumF f (L.take (k + 1)) = sumF f (L.take k) + f L[k] := by
  rw [take_one hk, sumF_append]; simp [sumF]
theorem sum_part {α : Type} {f : α → Int} {L : List α} (h : ∀ a ∈ L, 0 ≤ f a) (k : Nat) : 0 ≤ sumF f (L.take k) ∧ sumF f (L.take k) ≤ sumF f L := by
  have h1 := sumF_append f (L.take k) (L.drop k)
  rw [List.take_append_drop] at h1
  have h2 : 0 ≤ sumF f (L.take k) := sumF_nn fun a ha => h a (List.mem_of_mem_take ha)
  have h3 : 0 ≤ sumF f (L.drop k) := sumF_nn fun a ha => h a (List.mem_of_mem_drop ha)
  omega
section
variable {h : AHeap} {Q : AVal → AHeap → Prop} {x z v9 v13 : AVal} {R T : List (List AVal)}
end
end Go.Ab

/- What is proved: contract of the document's answer: what is left. No conditions. -/
set_option linter.unusedVariables false
set_option linter.unusedSimpArgs false
namespace Go.Ab
variable {C : CSem} {N : Nat → Nat}
def usedOf (n : Int) (u : Use) : Int := if u.Lot = n then u.Qty else 0
theorem chk_left {L : List Lot} {W : List Want} (n : Int) : ∀ {us : List Use} {s s' : CS}, chkRun L W s us = some s' → s'.left n = s.left n - sumF (usedOf n) us
  | [], s, s', h => by cases h; simp [sumF]
  | u :: us, s, s', h => by
    obtain ⟨l, h1, h2, h3, h4⟩ := chkRun_cons h
    rw [chk_left n h4]
    simp only [chkStep, sumF, usedOf]
    by_cases e : n = u.Lot
    · rw [if_pos e, if_pos e.symm]; omega
    · rw [if_neg e, if_neg (Ne.symm e)]; omega
def ref05_Left.Spec (C : CSem) (N : Nat → Nat) : Prop := ∀ (x y : AVal) (L : List Lot) (W : List Want) (R S : List (List AVal)) (h : AHeap) (Q : AVal → AHeap → Prop), SlX h 6 x (L.map Lot.cs) R → SlX h 3 y (W.map Want.cs) S → L.length < 4611686018427387904 → W.length < 4611686018427387904 →
  LeftQ L W h Q → C (N 222) [x, y] h Q
theorem ref05_Left.spec (i : ref05_Left.Imp C N) (s1 : ref05_Fill.Spec C N) : ref05_Left.Spec C N := by
  intro x y L W R S h Q hx hy hlen hlen2 hq
  apply i
  have e1 := hx.lenSl
  rw [List.length_map] at e1
  simp -dsimp only [ref05_Left.cps, ref05_Left.k7]
  refine s1 _ _ _ _ _ _ _ _ hx hy hlen hlen2 ⟨fun hn => ?_, fun us lf he hl h1 z o => ?_⟩
  · simp -dsimp only [V.ext_tup, List.getElem?_cons_zero, List.getElem?_cons_succ, V.un_not, Bool.not_false, B.cond_true, B.pv_some]
    exact dn_same (hq.1 hn)
  · have hck := greedy_checks he
    have hm := hck.1
    obtain ⟨f1, f2, f3, f4, f5⟩ := mayBe_facts hm
    obtain ⟨cur, r1, r2⟩ := (greedy_inv hm).1 us lf he
    have ok := chkRun_ok r1 (csStart_ok hm)
    have cs := chk_sum f4 r1
    have ez := (o.slAt 0 rfl).lenSl
    rw [List.length_map] at ez
    simp -dsimp only [V.ext_tup, List.getElem?_cons_zero, List.getElem?_cons_succ, V.un_not, Bool.not_true, B.cond_false, B.pv_some]
    have o0 := o.nils 6
    simp only [List.cons_append, List.nil_append] at o0
    refine LoopR.intro (fun t vs hh => ∃ (k : Nat) (x' : AVal), k + t = L.length ∧ vs = [x', .int .i64 (k : Int)] ∧ Owns h hh [.sl 3 z (us.map Use.cs) [], .sl 6 x' ((leftLots (L.take k) lf).map Lot.cs) []] ∧ (leftLots (L.take k) lf).length ≤ k) L.length ?_ ⟨0, .nils, by omega, rfl, by simpa [leftLots] using o0, by simp [leftLots]⟩
    rintro Y t vs hh ⟨k, x2, hkt, rfl, o2, hle⟩ hY
    simp -dsimp only [ref05_Left.l6, ref05_Left.k5, e1, lssN, B.pv_some]
    refine B.cond_bool (fun hb => ?_) (fun hb => ?_) <;> simp only [decide_eq_true_eq, decide_eq_false_iff_not] at hb
    · have a := (hx.mono o2.le).lotAt hb
      have hz := o2.slAt 0 rfl
      have hs := leftLots_succ (lf := lf) hb
      have eL : L[k] = lAt L k := (lAt_get hb).symm
      rw [eL] at hs
      have lr := lotRight_facts (f3 _ (lAt_mem hb))
      have eq0 : lf (lAt L k).Id = (lAt L k).Qty - sumF (usedOf (lAt L k).Id) us := by
        have := chk_left (lAt L k).Id r1
        simp only [csStart] at this
        rw [left0_of f4 (lAt_mem hb)] at this
        exact this
      have lf0 : 0 ≤ lf (lAt L k).Id := ok.left _
      have un : ∀ u ∈ us, 0 ≤ usedOf (lAt L k).Id u := fun u hu => by
        have := cs.2 u hu
        unfold usedOf; split <;> omega
      simp -dsimp only [ref05_Left.k4, a.ix, B.ldn_eq, a.el _ (lAt_some hb), setLot6, B.pv_some]
      refine LoopR.intro (fun t vs h2 => h2 = hh ∧ ∃ j : Nat, j + t = us.length ∧ vs = [.int .i64 (j : Int), .agg (Lot.cs { lAt L k with Qty := (lAt L k).Qty - sumF (usedOf (lAt L k).Id) (us.take j) })]) us.length ?_ ⟨rfl, 0, by omega, by simp [sumF]⟩
      rintro Z u vs h2 ⟨rfl, j, hju, rfl⟩ hZ
      simp -dsimp only [ref05_Left.l3, ref05_Left.k2, ez, lssN, B.pv_some]
      refine B.cond_bool (fun hc => ?_) (fun hc => ?_) <;> simp only [decide_eq_true_eq, decide_eq_false_iff_not] at hc
      · have hg : (us.map Use.cs)[j]? = some (us[j]).cs := by rw [List.getElem?_map, List.getElem?_eq_getElem hc]; rfl
        have kk : j < (us.map Use.cs).length := by simpa using hc
        have ix : V.idxS 3 z (.int .i64 (j : Int)) = some (elp 3 z j 0) := hz.idxN kk
        have fa : ∀ f, V.fieldAddr f (elp 3 z j 0) = some (elp 3 z j f) := fun f => by have := hz.fieldA kk 0 f; simpa using this
        have l1 : A.ldv h2 (elp 3 z j 1) = some (.int .i64 us[j].Lot) := by have := hz.ldv (f := 1) hg (by omega); simpa using this
        have l2 : A.ldv h2 (elp 3 z j 2) = some (.int .i64 us[j].Qty) := by have := hz.ldv (f := 2) hg (by omega); simpa using this
        have p1 := sum_part un j
        have p2 := sum_part un (j + 1)
        have p3 := sum_take (f := usedOf (lAt L k).Id) hc
        have go := hZ (us.length - (j + 1)) [.int .i64 ((j + 1 : Nat) : Int), .agg (Lot.cs { lAt L k with Qty := (lAt L k).Qty - sumF (usedOf (lAt L k).Id) (us.take (j + 1)) })] h2 (by omega) ⟨rfl, j + 1, by omega, rfl⟩
        simp -dsimp only [ix, fa, B.ld_eq, l1, lotId, V.bin_eql, B.al_agg, B.pv_some]
        refine B.cond_bool (fun hd => ?_) (fun hd => ?_) <;> simp only [decide_eq_true_eq, decide_eq_false_iff_not] at hd
        · have eu : usedOf (lAt L k).Id us[j] = us[j].Qty := if_pos hd
          rw [p3, eu] at go
          rw [p3, eu] at p2
          have q1 := cs.2 _ (List.getElem_mem hc)
          simp -dsimp only [lotQty, ix, fa, B.ld_eq, l2, V.bin_sub, setLotQty, add1 (show j < 4611686018427387904 by omega), B.al_agg, B.pv_some]
          rw [wrap_i64 (by omega) (by omega)]
          rw [show (lAt L k).Qty - sumF (usedOf (lAt L k).Id) (us.take j) - us[j].Qty = (lAt L k).Qty - (sumF (usedOf (lAt L k).Id) (us.take j) + us[j].Qty) by omega]
          exact go
        · have eu : usedOf (lAt L k).Id us[j] = 0 := if_neg hd
          rw [p3, eu, Int.add_zero] at go
          simp -dsimp only [add1 (show j < 4611686018427387904 by omega), B.pv_some]
          exact go
      · rw [List.take_of_length_le (by omega), ← eq0]
        simp -dsimp only [ref05_Left.k1, lotQty, V.bin_gtr, B.al_agg, B.pv_some]
        refine B.cond_bool (fun hc => ?_) (fun hc => ?_) <;> simp only [decide_eq_true_eq, decide_eq_false_iff_not] at hc
        · have e : leftLots [lAt L k] lf = [{ lAt L k with Qty := lf (lAt L k).Id }] := by simp [leftLots, show 0 < lf (lAt L k).Id by omega]
          rw [e] at hs
          simp -dsimp only [getLot6, fillLot1, B.pv_some]
          refine o2.push 1 rfl (cs := Lot.cs { lAt L k with Qty := lf (lAt L k).Id }) rfl (by omega) (by simp; omega) (by simp [maxLen]; omega) fun x3 h3 o3 _ => ?_
          simp -dsimp only [add1 (show k < 4611686018427387904 by omega), B.pv_some]
          exact hY (L.length - (k + 1)) _ _ (by omega) ⟨k + 1, x3, by omega, rfl, by rw [hs]; simpa using o3, by rw [hs]; simp; omega⟩
        · have e : leftLots [lAt L k] lf = [] := by simp [leftLots, show ¬ 0 < lf (lAt L k).Id by omega]
          rw [e, List.append_nil] at hs
          simp -dsimp only [add1 (show k < 4611686018427387904 by omega), B.pv_some]
          exact hY (L.length - (k + 1)) _ _ (by omega) ⟨k + 1, x2, by omega, rfl, by rw [hs]; exact o2, by rw [hs]; omega⟩
    · rw [List.take_of_length_le (by omega)] at o2
      exact dn_same (hq.2 us lf he hh x2 (o2.sub (by simp)))
end Go.Ab

/- What is proved: contract of the statement on what is filled. No conditions. -/
set_option linter.unusedVariables false
set_option linter.unusedSimpArgs false
namespace Go.Ab
variable {C : CSem} {N : Nat → Nat}
def law05_FlowFills.Spec (C : CSem) (N : Nat → Nat) : Prop := ∀ (x y : AVal) (L : List Lot) (W : List Want) (R S : List (List AVal)) (h : AHeap) (Q : AVal → AHeap → Prop), SlX h 6 x (L.map Lot.cs) R → SlX h 3 y (W.map Want.cs) S →
  L.length < 4611686018427387904 → W.length < 4611686018427387904 → Q (.bool true) h → C (N 224) [x, y] h Q
theorem law05_FlowFills.spec (i : law05_FlowFills.Imp C N) (s1 : law05_awake.Spec C N) (s2 : law05_small.Spec C N) (s3 : kit_LentLots.Spec C N) (s4 : kit_LentWants.Spec C N) (s5 : flow_Fill.Spec C N) (s6 : ref05_Fill.Spec C N) (s7 : flow_Left.Spec C N) (s8 : ref05_Left.Spec C N) (s9 : kit_SameUses.Spec C N) (s10 : flow_Fits.Spec C N) (s11 : kit_SameLots.Spec C N) (s12 : kit_KeptLots.Spec C N) (s13 : kit_KeptWants.Spec C N) : law05_FlowFills.Spec C N := by
  intro x y L W R S h Q hx hy hlen hlen2 hq
  apply i
  simp -dsimp only [law05_FlowFills.cps, law05_FlowFills.k1]
  refine s1 _ _ ?_
  simp -dsimp only [V.un_not, Bool.not_true, B.cond_false, B.pv_some]
  refine s2 _ _ _ _ _ _ _ _ hx hy ?_
  simp -dsimp only [V.un_not, B.pv_some]
  refine B.cond_bool (fun hb => dn_same hq) (fun hb => ?_)
  have hsm : L.length ≤ 40 ∧ W.length ≤ 60 := by
    simp only [small, Bool.not_eq_false', Bool.and_eq_true, decide_eq_true_eq] at hb
    exact hb
  refine s3 _ _ _ _ _ hx (by omega) fun a h1 o1 => ?_
  refine s4 _ _ _ _ _ (hy.mono o1.le) (by omega) fun b h2 o2 => ?_
  have la : SlX h2 6 a (L.map Lot.cs) marksLot := (o1.slAt 0 rfl).mono o2.le
  have lb : SlX h2 3 b (W.map Want.cs) marksWant := o2.slAt 0 rfl
  have h02 := AHeap.le_trans o1.le o2.le
  have hx2 := hx.mono h02
  have hy2 := hy.mono h02
  have et : V.eqBool .eql (.bool true) (.bool true) = some (.bool true) := rfl
  have ef : V.eqBool .eql (.bool false) (.bool false) = some (.bool true) := rfl
  have fin : ∀ (h' : AHeap), h2.le h' → (fun (v73 : AVal) (h : AHeap) => B.gd h v73 true (fun K => K a h) fun v75 h => B.gd h v73 true (fun K => K x h) fun v76 h => B.gd h v73 true (fun K => B.call C (N 54) [v75, v76] h K) fun v77 h => B.pick v73 v77 (.bool false) fun v78 =>
    B.gd h v78 true (fun K => K b h) fun v80 h => B.gd h v78 true (fun K => K y h) fun v81 h => B.gd h v78 true (fun K => B.call C (N 223) [v80, v81] h K) fun v82 h => B.pick v78 v82 (.bool false) fun v83 => dn Q v83 h) (.bool true) h' := fun h' hle => by
    simp -dsimp
    refine s12 _ _ _ _ _ _ _ (la.mono hle) (hx2.mono hle) (by omega) ?_
    simp -dsimp
    refine s13 _ _ _ _ _ _ _ (lb.mono hle) (hy2.mono hle) (by omega) ?_
    simp -dsimp
    exact dn_le (AHeap.le_trans h02 hle) hq
  refine s5 _ _ L W _ _ _ _ la lb hlen hlen2 ⟨fun hn => ?_, fun us lf he hl h3 u o3 => ?_⟩
  · simp -dsimp only [V.ext_tup, List.getElem?_cons_zero, List.getElem?_cons_succ, B.pv_some]
    refine s6 _ _ L W _ _ _ _ hx2 hy2 hlen hlen2 ⟨fun _ => ?_, fun us lf he _ _ _ => by rw [hn] at he; cases he⟩
    simp -dsimp only [V.ext_tup, List.getElem?_cons_zero, List.getElem?_cons_succ, B.pv_some]
    refine s7 _ _ L W _ _ _ _ la lb hlen hlen2 ⟨fun _ => ?_, fun us lf he _ _ => by rw [hn] at he; cases he⟩
    simp -dsimp only [V.ext_tup, List.getElem?_cons_zero, List.getElem?_cons_succ, B.pv_some]
    refine s8 _ _ L W _ _ _ _ hx2 hy2 hlen hlen2 ⟨fun _ => ?_, fun us lf he _ _ => by rw [hn] at he; cases he⟩
    simp -dsimp [ef]
    refine s9 _ _ [] [] [] [] _ _ (SlX.nils _ _) (SlX.nils _ _) (by simp) ?_
    simp -dsimp
    refine s10 _ _ L W _ _ _ _ la lb hlen hlen2 ?_
    rw [hn]
    simp -dsimp [ef]
    refine s11 _ _ [] [] [] [] _ _ (SlX.nils _ _) (SlX.nils _ _) (by simp) ?_
    simp -dsimp
    have := fin h2 (AHeap.le_refl _)
    simp -dsimp at this
    exact this
  · simp -dsimp only [V.ext_tup, List.getElem?_cons_zero, List.getElem?_cons_succ, B.pv_some]
    refine s6 _ _ L W _ _ _ _ (hx2.mono o3.le) (hy2.mono o3.le) hlen hlen2 ⟨fun hn => (by rw [he] at hn; cases hn), fun us2 lf2 he2 hl2 h4 v o4 => ?_⟩
    rw [he] at he2; cases he2
    have h24 := AHeap.le_trans o3.le o4.le
    simp -dsimp only [V.ext_tup, List.getElem?_cons_zero, List.getElem?_cons_succ, B.pv_some]
    refine s7 _ _ L W _ _ _ _ (la.mono h24) (lb.mono h24) hlen hlen2 ⟨fun hn => (by rw [he] at hn; cases hn), fun us3 lf3 he3 h5 l o5 => ?_⟩
    rw [he] at he3; cases he3
    have h25 := AHeap.le_trans h24 o5.le
    simp -dsimp only [V.ext_tup, List.getElem?_cons_zero, List.getElem?_cons_succ, B.pv_some]
    refine s8 _ _ L W _ _ _ _ (hx2.mono h25) (hy2.mono h25) hlen hlen2 ⟨fun hn => (by rw [he] at hn; cases hn), fun us4 lf4 he4 h6 m o6 => ?_⟩
    rw [he] at he4; cases he4
    have h26 := AHeap.le_trans h25 o6.le
    simp -dsimp [et]
    refine s9 _ _ us us _ _ _ _ ((o3.slAt 0 rfl).mono (AHeap.le_trans o4.le (AHeap.le_trans o5.le o6.le))) ((o4.slAt 0 rfl).mono (AHeap.le_trans o5.le o6.le)) (by omega) ?_
    simp -dsimp
    refine s10 _ _ L W _ _ _ _ (la.mono h26) (lb.mono h26) hlen hlen2 ?_
    rw [he]
    simp -dsimp [et]
    refine s11 _ _ (leftLots L lf) (leftLots L lf) _ _ _ _ ((o5.slAt 0 rfl).mono o6.le) (o6.slAt 0 rfl) (Nat.lt_of_le_of_lt (List.length_filterMap_le _ _) (by omega)) ?_
    simp -dsimp
    have := fin h6 h26
    simp -dsimp at this
    exact this
end Go.Ab

/- What is proved: ways that let one want have what another can do without: plain facts. No program in sight. No conditions. -/
set_option linter.unusedVariables false
set_option linter.unusedSimpArgs false
namespace Go.Ab
abbrev Hs := Nat → Nat → Int
/-- What wants have of lots, and what is left; each lot may lack something. -/
structure FF (L : List Lot) (W : List Want) (has : Hs) (left nd df : Nat → Int) : Prop where
  hn : ∀ w k, 0 ≤ has w k
  ln : ∀ k, 0 ≤ left k
  col : ∀ k < L.length, left k + sumF (fun w => has w k) (List.range W.length) = (lAt L k).Qty - df k
  row : ∀ w < W.length, sumF (fun k => has w k) (List.range L.length) = (wAt W w).Qty - nd w
  sv : ∀ w < W.length, ∀ k < L.length, 0 < has w k → serves (lAt L k) (wAt W w) = true
def at2 (has : Hs) (v k : Nat) (d : Int) : Hs := fun w j => if w = v ∧ j = k then has w j + d else has w j
def at1 (f : Nat → Int) (k : Nat) (d : Int) : Nat → Int := fun j => if j = k then f j + d else f j
theorem sumF_at {f g : Nat → Int} {n k : Nat} {d : Int} (hk : k < n) (ho : ∀ j < n, j ≠ k → f j = g j) (hd : f k = g k + d) : sumF f (List.range n) = sumF g (List.range n) + d :=
  sumF_upd List.nodup_range (List.mem_range.2 hk) (fun b hb hne => ho b (List.mem_range.1 hb) hne) hd
theorem FF.add {L : List Lot} {W : List Want} {has : Hs} {left nd df : Nat → Int} (F : FF L W has left nd df) {v k : Nat} (hv : v < W.length) (hk : k < L.length) {d : Int} (h0 : 0 ≤ has v k + d) (hs : serves (lAt L k) (wAt W v) = true) :
    FF L W (at2 has v k d) left (at1 nd v (-d)) (at1 df k (-d)) where
  hn w j := by
    unfold at2; split
    · rename_i e; rw [e.1, e.2]; exact h0
    · exact F.hn w j
  ln := F.ln
  col j hj := by
    have := F.col j hj
    by_cases e : j = k
    · subst e
      rw [sumF_at (g := fun w => has w j) hv (fun b _ hb => by simp [at2, hb]) (by simp [at2]; rfl)]
      simp only [at1, if_true]; omega
    · simp only [at2, at1, e, and_false, if_false]; exact this
  row w hw := by
    have := F.row w hw
    by_cases e : w = v
    · subst e
      rw [sumF_at (g := fun j => has w j) hk (fun b _ hb => by simp [at2, hb]) (by simp [at2]; rfl)]
      simp only [at1, if_true]; omega
    · simp only [at2, at1, e, false_and, if_false]; exact this
  sv w hw j hj h := by
    by_cases e : w = v ∧ j = k
    · rw [e.1, e.2]; exact hs
    · simp only [at2, e, if_false] at h; exact F.sv w hw j hj h
theorem FF.take {L : List Lot} {W : List Want} {has : Hs} {left nd df : Nat → Int} (F : FF L W has left nd df) {k : Nat} {d : Int} (h0 : 0 ≤ left k - d) : FF L W has (at1 left k (-d)) nd (at1 df k d) where
  hn := F.hn
  ln j := by unfold at1; split; rename_i e; subst e; omega; exact F.ln j
  col j hj := by
    have := F.col j hj
    unfold at1; split
    · omega
    · exact this
  row := F.row
  sv := F.sv
/-- A way: from a lot back to the want that lacks something. -/
inductive Path (L : List Lot) (W : List Want) (f b : Nat → Int) (r : Nat) : Nat → List Nat → Prop
  | last {k : Nat} : k < L.length → r < W.length → f k = (r : Int) → serves (lAt L k) (wAt W r) = true → b r < 0 → Path L W f b r k [r]
  | more {k v k' : Nat} {vs : List Nat} : k < L.length → v < W.length → f k = (v : Int) → serves (lAt L k) (wAt W v) = true → b v = (k' : Int) → Path L W f b r k' vs → Path L W f b r k (v :: vs)
/-- All that stand on a way have so much. -/
def Rich (has : Hs) (b : Nat → Int) (m : Int) (vs : List Nat) : Prop := ∀ v ∈ vs, ∀ k : Nat, b v = (k : Int) → m ≤ has v k
/-! Sums both ways. -/
theorem sumF_add {α : Type} (f g : α → Int) : ∀ l : List α, sumF (fun a => f a + g a) l = sumF f l + sumF g l
  | [] => rfl
  | a :: l => by simp only [sumF]; rw [sumF_add f g l]; omega
theorem sumF_swap {α β : Type} (f : α → β → Int) (m : List β) : ∀ l : List α, sumF (fun a => sumF (f a) m) l = sumF (fun b => sumF (fun a => f a b) l) m
  | [] => by simp only [sumF]; rw [sumF_zero fun _ _ => rfl]
  | a :: l => by simp only [sumF]; rw [sumF_swap f m l, sumF_add]
theorem lAt_range (L : List Lot) : (List.range L.length).map (lAt L) = L := by
  apply List.ext_getElem?
  intro i
  by_cases hi : i < L.length
  · rw [List.getElem?_map, List.getElem?_range hi, Option.map_some, lAt_get hi, List.getElem?_eq_getElem hi]
  · rw [List.getElem?_eq_none (by simp; omega), List.getElem?_eq_none (by omega)]
theorem leftS_range {L : List Lot} {W : List Want} (hn : (L.map Lot.Id).Nodup) (S : Nat → Bool) : leftS L W (csStart L W).left S = sumF (fun k => bif nS W S (lAt L k) then (lAt L k).Qty else 0) (List.range L.length) := by
  unfold leftS
  conv => lhs; rw [show sumF _ L = sumF (fun l => bif nS W S l then (csStart L W).left l.Id else 0) ((List.range L.length).map (lAt L)) by rw [lAt_range]]
  rw [sumF_map]
  refine sumF_congr fun k hk => ?_
  simp only [csStart]
  rw [left0_of hn (lAt_mem (List.mem_range.1 hk))]
theorem bif_sum {α : Type} (c : Bool) (f : α → Int) (l : List α) : (bif c then sumF f l else 0) = sumF (fun a => bif c then f a else 0) l := by
  cases c
  · simp only [cond_false]; rw [sumF_zero fun _ _ => rfl]
  · rfl
/-- All is served: Hall's condition. -/
theorem FF.hall {L : List Lot} {W : List Want} (hn : (L.map Lot.Id).Nodup) {has : Hs} {left nd : Nat → Int} (F : FF L W has left nd fun _ => 0) (h0 : ∀ w < W.length, nd w = 0) : Hall L W := fun S => by
  rw [leftS_range hn]
  have e1 : needS W (csStart L W).need S = sumF (fun w => sumF (fun k => bif S w then has w k else 0) (List.range L.length)) (List.range W.length) := sumF_congr fun w hw => by
    have hw' := List.mem_range.1 hw
    rw [← bif_sum, F.row w hw', h0 w hw']; simp [csStart]
  rw [e1, sumF_swap]
  refine sumF_le fun k hk => ?_
  have hk' := List.mem_range.1 hk
  have hc := F.col k hk'
  have hl := F.ln k
  cases hS : nS W S (lAt L k) with
  | true =>
    simp only [cond_true]
    have : sumF (fun w => bif S w then has w k else 0) (List.range W.length) ≤ sumF (fun w => has w k) (List.range W.length) := sumF_le fun w _ => by
      cases S w
      · exact F.hn w k
      · exact Int.le_refl _
    omega
  | false =>
    simp only [cond_false]
    refine Int.le_of_eq (sumF_zero fun w hw => ?_)
    cases hSw : S w with
    | false => rfl
    | true =>
      simp only [cond_true]
      have hw' := List.mem_range.1 hw
      rcases Int.lt_or_le 0 (has w k) with h | h
      · rw [nS_of hw' hSw (F.sv w hw' k hk' h)] at hS; cases hS
      · have := F.hn w k; omega
/-- No way goes on: Hall's condition fails. -/
theorem FF.stuck {L : List Lot} {W : List Want} (hn : (L.map Lot.Id).Nodup) {has : Hs} {left nd : Nat → Int} (F : FF L W has left nd fun _ => 0) {S T : Nat → Bool} {w0 : Nat} (hw0 : w0 < W.length) (hS0 : S w0 = true) (hnd : 0 < nd w0) (hnn : ∀ w < W.length, 0 ≤ nd w)
    (h1 : ∀ w < W.length, ∀ k < L.length, S w = true → serves (lAt L k) (wAt W w) = true → T k = true) (h2 : ∀ k < L.length, T k = true → left k = 0) (h3 : ∀ k < L.length, ∀ w < W.length, T k = true → 0 < has w k → S w = true) : ¬ Hall L W := fun hH => by
  have h := hH S
  rw [leftS_range hn] at h
  have e1 : needS W (csStart L W).need S = sumF (fun w => (bif S w then nd w else 0) + sumF (fun k => bif S w then has w k else 0) (List.range L.length)) (List.range W.length) := sumF_congr fun w hw => by
    have hw' := List.mem_range.1 hw
    have : sumF (has w) (List.range L.length) = (wAt W w).Qty - nd w := F.row w hw'
    rw [← bif_sum]
    cases S w
    · rfl
    · simp only [cond_true, csStart]; omega
  rw [e1, sumF_add, sumF_swap] at h
  have p : 0 < sumF (fun w => bif S w then nd w else 0) (List.range W.length) := by
    have := sumF_at (f := fun w => bif S w then nd w else 0) (g := fun w => if w = w0 then 0 else bif S w then nd w else 0) (d := nd w0) hw0 (fun j _ hj => by simp [hj]) (by simp [hS0])
    have h0 : 0 ≤ sumF (fun w => if w = w0 then 0 else bif S w then nd w else 0) (List.range W.length) := sumF_nn fun w hw => by
      have := hnn w (List.mem_range.1 hw)
      split
      · exact Int.le_refl _
      · cases S w
        · exact Int.le_refl _
        · exact this
    omega
  have q : sumF (fun k => bif nS W S (lAt L k) then (lAt L k).Qty else 0) (List.range L.length) ≤ sumF (fun k => sumF (fun w => bif S w then has w k else 0) (List.range W.length)) (List.range L.length) := sumF_le fun k hk => by
    have hk' := List.mem_range.1 hk
    cases hN : nS W S (lAt L k) with
    | false =>
      simp only [cond_false]
      exact sumF_nn fun w _ => by
        cases S w
        · exact Int.le_refl _
        · exact F.hn w k
    | true =>
      simp only [cond_true]
      unfold nS at hN
      rw [List.any_eq_true] at hN
      obtain ⟨i, hi, hb⟩ := hN
      rw [Bool.and_eq_true] at hb
      have hT := h1 i (List.mem_range.1 hi) k hk' hb.1 hb.2
      have hc := F.col k hk'
      rw [h2 k hk' hT] at hc
      have : sumF (fun w => has w k) (List.range W.length) = sumF (fun w => bif S w then has w k else 0) (List.range W.length) := sumF_congr fun w hw => by
        cases hSw : S w with
        | true => rfl
        | false =>
          simp only [cond_false]
          rcases Int.lt_or_le 0 (has w k) with hp | hp
          · have := h3 k hk' w (List.mem_range.1 hw) hT hp; rw [hSw] at this; cases this
          · have := F.hn w k; omega
      omega
  omega
end Go.Ab

/- What is proved: contract of the document's answer: a way is gone. No conditions. -/
set_option linter.unusedVariables false
set_option linter.unusedSimpArgs false
namespace Go.Ab
variable {C : CSem} {N : Nat → Nat}
def set2 (has : Hs) (v k : Nat) (x : Int) : Hs := fun w j => if w = v ∧ j = k then x else has w j
theorem set2_at (has : Hs) (v k : Nat) (d : Int) : set2 has v k (has v k + d) = at2 has v k d := by
  funext w j
  unfold set2 at2
  by_cases e : w = v ∧ j = k
  · rw [if_pos e, if_pos e, e.1, e.2]
  · rw [if_neg e, if_neg e]
abbrev HasO (n m : Nat) (xs : Nat → AVal) (has : Hs) : List Ob := Objs 1 n xs (fun w => ints m (has w)) (fun _ => [])
section
variable {h0 h : AHeap} {n m : Nat} {xs : Nat → AVal} {has : Hs} {l : List Ob}
theorem hasAt (o : Owns h0 h (HasO n m xs has ++ l)) {v k : Nat} (hv : v < n) (hk : k < m) : V.idxS 1 (xs v) (.int .i64 (k : Int)) = some (elp 1 (xs v) k 0) ∧ A.ldv h (elp 1 (xs v) k 0) = some (.int .i64 (has v k)) :=
  (o.slAt v (Objs.getA hv)).intAt hk
theorem hasSt (o : Owns h0 h (HasO n m xs has ++ l)) {v k : Nat} (hv : v < n) (hk : k < m) {x : Int} {K : AHeap → Prop} (hK : ∀ h', Owns h0 h' (HasO n m xs (set2 has v k x) ++ l) → K h') : A.st h (elp 1 (xs v) k 0) (.int .i64 x) K :=
  o.st v (Objs.getA hv) (i := k) (f := 0) (ints_get _ hk) (by omega) rfl fun h' o' _ => by
    refine hK h' ?_
    rw [Objs.setA hv] at o'
    have es1 : ∀ (a b : AVal), ([a].set 0 b) = [b] := fun _ _ => rfl
    simp only [es1, ints_set] at o'
    have e : Objs 1 n (upf xs v (xs v)) (upf (fun w => ints m (has w)) v (ints m fun j => if j = k then x else has v j)) (upf (fun _ => []) v []) = HasO n m xs (set2 has v k x) := Objs.congr fun w hw => by
      unfold upf
      by_cases e : w = v
      · subst e
        refine ⟨by simp, ?_, by simp⟩
        simp only [if_true]
        exact ints_congr fun j _ => by simp [set2]
      · refine ⟨by simp [e], ?_, by simp [e]⟩
        simp only [e, if_false]
        exact ints_congr fun j _ => by simp [set2, e]
    rw [e] at o'
    exact o'
theorem FF.le {L : List Lot} {W : List Want} {left nd df : Nat → Int} (F : FF L W has left nd df) {v k : Nat} (hv : v < W.length) (hk : k < L.length) (hd : 0 ≤ df k) : has v k ≤ (lAt L k).Qty := by
  have h1 := F.col k hk
  have h2 := F.ln k
  have h3 := sumF_at (f := fun w => has w k) (g := fun w => if w = v then 0 else has w k) (d := has v k) hv (fun j _ hj => by simp [hj]) (by simp)
  have h4 : 0 ≤ sumF (fun w => if w = v then 0 else has w k) (List.range W.length) := sumF_nn fun w _ => by
    split
    · exact Int.le_refl _
    · exact F.hn w k
  omega
end
def ref05_along.Spec (C : CSem) (N : Nat → Nat) : Prop := ∀ (h0 h : AHeap) (hv lf fr by_ : AVal) (xs : Nat → AVal) (L : List Lot) (W : List Want) (has : Hs) (left nd f b : Nat → Int) (Rv R1 R2 : List (List AVal)) (e r : Nat) (vs : List Nat) (need : Int) (Q : AVal → AHeap → Prop),
  SlX h0 1 hv (fills W.length fun w => [xs w]) Rv → SlX h0 1 fr (ints L.length f) R1 → SlX h0 1 by_ (ints W.length b) R2 → Owns h0 h (HasO W.length L.length xs has ++ [.sl 1 lf (ints L.length left) []]) → FF L W has left nd (fun _ => 0) →
  (∀ l ∈ L, l.Qty ≤ 1073741824) → Path L W f b r e vs → vs.Nodup → Rich has b 1 vs → 0 < left e → 0 < need →
  (∀ h' has' left' more, 0 < more → more ≤ need → FF L W has' left' (at1 nd r (-more)) (fun _ => 0) → Owns h0 h' (HasO W.length L.length xs has' ++ [.sl 1 lf (ints L.length left') []]) → Q (.int .i64 more) h') → C (N 242) [hv, lf, fr, by_, .int .i64 (e : Int), .int .i64 need] h Q
theorem Path.k_lt {L : List Lot} {W : List Want} {f b : Nat → Int} {r k : Nat} {vs : List Nat} (p : Path L W f b r k vs) : k < L.length := by cases p <;> assumption
theorem at1_back (f : Nat → Int) (k : Nat) (d : Int) : at1 (at1 f k (-d)) k (- -d) = f := by
  funext j; unfold at1; split <;> omega
theorem at1_zero (k : Nat) (d : Int) : at1 (at1 (fun _ => 0) k d) k (-d) = fun _ => 0 := by
  funext j; simp only [at1]; split <;> omega
theorem ref05_along.spec (i : ref05_along.Imp C N) : ref05_along.Spec C N := by
  intro h0 h hv lf fr by_ xs L W has left nd f b Rv R1 R2 e r vs need Q hhv hfr hby o F hql hp hnd hrich hle hneed hq
  apply i
  have he := hp.k_lt
  have oL : ∀ {hh : AHeap} {hs : Hs} {lt : Nat → Int}, Owns h0 hh (HasO W.length L.length xs hs ++ [.sl 1 lf (ints L.length lt) []]) → SlX hh 1 lf (ints L.length lt) [] := fun o => o.slAt W.length Objs.getL
  have fAt : ∀ {hh : AHeap} (hle : h0.le hh) {k : Nat} (hk : k < L.length), V.idxS 1 fr (.int .i64 (k : Int)) = some (elp 1 fr k 0) ∧ A.ldv hh (elp 1 fr k 0) = some (.int .i64 (f k)) := fun hle _ hk => (hfr.mono hle).intAt hk
  have bAt : ∀ {hh : AHeap} (hle : h0.le hh) {v : Nat} (hv : v < W.length), V.idxS 1 by_ (.int .i64 (v : Int)) = some (elp 1 by_ v 0) ∧ A.ldv hh (elp 1 by_ v 0) = some (.int .i64 (b v)) := fun hle _ hv => (hby.mono hle).intAt hv
  have xAt : ∀ {hh : AHeap} (hle : h0.le hh) {v : Nat} (hv' : v < W.length), V.idxS 1 hv (.int .i64 (v : Int)) = some (elp 1 hv v 0) ∧ A.ldv hh (elp 1 hv v 0) = some (xs v) := fun hle v hv' => ⟨hhv.idxN (by simpa using hv'), (hhv.mono hle).cell (fills_get _ hv')⟩
  obtain ⟨c1, c2⟩ := (oL o).intAt he
  simp -dsimp only [ref05_along.cps, c1, B.ld_eq, c2, V.min2_int, B.pv_some]
  refine LoopR.intro (fun t ws hh => hh = h ∧ ∃ (pre vs1 : List Nat) (k : Nat) (mm : Int), t = vs1.length ∧ ws = [.int .i64 mm, .int .i64 (k : Int)] ∧ vs = pre ++ vs1 ∧ Path L W f b r k vs1 ∧ Rich has b mm pre ∧ 0 < mm ∧ mm ≤ need ∧ mm ≤ left e) vs.length ?_ ⟨rfl, [], vs, e, min need (left e), rfl, rfl, rfl, hp, fun v hv => (by cases hv), by omega, by omega, by omega⟩
  rintro Y t ws hh ⟨rfl, pre, vs1, k, mm, rfl, rfl, hvs, hp1, hr1, m1, m2, m3⟩ hY
  have hk := hp1.k_lt
  obtain ⟨f1, f2⟩ := fAt o.le hk
  cases hp1 with
  | @more _ v k' vs2 _ hv1 hfk hsv hbv hp2 =>
    rw [hfk] at f2
    obtain ⟨b1, b2⟩ := bAt o.le hv1
    rw [hbv] at b2
    obtain ⟨x1, x2⟩ := xAt o.le hv1
    obtain ⟨y1, y2⟩ := hasAt o hv1 hp2.k_lt
    have hg : V.bin .geq (.int .i64 (k' : Int)) (.int .i64 0) = some (.bool true) := by rw [V.bin_geq, decide_eq_true (by omega)]
    have hrv := hrich v (by rw [hvs]; simp) k' hbv
    simp -dsimp only [ref05_along.l5, ref05_along.k4, f1, B.ld_eq, f2, b1, b2, hg, B.cond_true, x1, x2, y1, y2, V.min2_int, B.pv_some]
    refine hY vs2.length _ _ (by simp) ⟨rfl, pre ++ [v], vs2, k', min mm (has v k'), rfl, rfl, by rw [hvs]; simp, hp2, fun u hu k2 hb2 => ?_, by omega, by omega, by omega⟩
    rcases List.mem_append.1 hu with hu | hu
    · have := hr1 u hu k2 hb2; omega
    · rw [List.mem_singleton.1 hu] at hb2 ⊢
      rw [hbv] at hb2
      have : k' = k2 := by omega
      subst this; omega
  | last _ hr2 hfk hsv hbr =>
    rw [hfk] at f2
    obtain ⟨b1, b2⟩ := bAt o.le hr2
    have hg : V.bin .geq (.int .i64 (b r)) (.int .i64 0) = some (.bool false) := by rw [V.bin_geq, decide_eq_false (by omega)]
    have hrich2 : Rich has b mm vs := fun u hu k2 hb2 => by
      rw [hvs] at hu
      rcases List.mem_append.1 hu with hu | hu
      · exact hr1 u hu k2 hb2
      · rw [List.mem_singleton.1 hu] at hb2; omega
    have le1 := hql _ (lAt_mem he)
    have lc := F.col e he
    have lq : left e ≤ (lAt L e).Qty := by
      have : 0 ≤ sumF (fun w => has w e) (List.range W.length) := sumF_nn fun w _ => F.hn w e
      omega
    simp -dsimp only [ref05_along.l5, ref05_along.k4, f1, B.ld_eq, f2, b1, b2, hg, B.cond_false, ref05_along.k3, c1, c2, V.bin_sub, B.pv_some]
    rw [wrap_i64 (by omega) (by omega)]
    refine o.st W.length Objs.getL (i := e) (f := 0) (ints_get _ he) (by omega) rfl fun h2 o2 _ => ?_
    have es1 : ∀ (a b : AVal), ([a].set 0 b) = [b] := fun _ _ => rfl
    rw [Objs.setL] at o2
    simp only [es1, ints_set] at o2
    have el : (fun j => if j = e then left e - mm else left j) = at1 left e (-mm) := by
      funext j; unfold at1
      by_cases ej : j = e
      · subst ej; rw [if_pos rfl, if_pos rfl]; omega
      · rw [if_neg ej, if_neg ej]
    rw [el] at o2
    have F2 := F.take (k := e) (d := mm) (by omega)
    clear hY
    refine LoopR.intro (fun t ws hh => ∃ (vs1 : List Nat) (k : Nat) (has' : Hs), t = vs1.length ∧ ws = [.int .i64 (k : Int)] ∧ Owns h0 hh (HasO W.length L.length xs has' ++ [.sl 1 lf (ints L.length (at1 left e (-mm))) []]) ∧ FF L W has' (at1 left e (-mm)) nd (at1 (fun _ => 0) k mm) ∧ Path L W f b r k vs1 ∧ vs1.Nodup ∧ Rich has' b mm vs1) vs.length ?_ ⟨vs, e, has, rfl, rfl, o2, F2, hp, hnd, hrich2⟩
    rintro Y t ws hh ⟨vs1, k, has', rfl, rfl, o, F, hp1, hnd1, hr1⟩ hY
    have hk := hp1.k_lt
    obtain ⟨f1, f2⟩ := fAt o.le hk
    have dk : (0 : Int) ≤ at1 (fun _ => 0) k mm k := by simp [at1]; omega
    have qk := hql _ (lAt_mem hk)
    cases hp1 with
    | last _ hr2 hfk hsv hbr =>
      rw [hfk] at f2
      obtain ⟨x1, x2⟩ := xAt o.le hr2
      obtain ⟨y1, y2⟩ := hasAt o hr2 hk
      have bn := F.hn r k
      have bl := F.le hr2 hk dk
      simp -dsimp only [ref05_along.l2, ref05_along.k1, f1, B.ld_eq, f2, x1, x2, y1, y2, V.bin_add, B.pv_some]
      rw [wrap_i64 (by omega) (by omega)]
      refine hasSt o hr2 hk fun h3 o3 => ?_
      rw [set2_at] at o3
      obtain ⟨b1, b2⟩ := bAt o3.le hr2
      simp -dsimp only [b1, B.ld_eq, b2, V.bin_lss, decide_eq_true hbr, B.cond_true, B.pv_some]
      have F3 := F.add hr2 hk (d := mm) (by omega) hsv
      rw [at1_zero] at F3
      exact dn_same (hq h3 _ _ mm m1 m2 F3 o3)
    | @more _ v k' vs2 _ hv1 hfk hsv hbv hp2 =>
      rw [hfk] at f2
      have hk' := hp2.k_lt
      obtain ⟨x1, x2⟩ := xAt o.le hv1
      obtain ⟨y1, y2⟩ := hasAt o hv1 hk
      have bn := F.hn v k
      have bl := F.le hv1 hk dk
      simp -dsimp only [ref05_along.l2, ref05_along.k1, f1, B.ld_eq, f2, x1, x2, y1, y2, V.bin_add, B.pv_some]
      rw [wrap_i64 (by omega) (by omega)]
      refine hasSt o hv1 hk fun h3 o3 => ?_
      rw [set2_at] at o3
      have F3 := F.add hv1 hk (d := mm) (by omega) hsv
      rw [at1_zero] at F3
      obtain ⟨b1, b2⟩ := bAt o3.le hv1
      rw [hbv] at b2
      obtain ⟨x3, x4⟩ := xAt o3.le hv1
      obtain ⟨y3, y4⟩ := hasAt o3 hv1 hk'
      have hlt : V.bin .lss (.int .i64 (k' : Int)) (.int .i64 0) = some (.bool false) := by rw [V.bin_lss, decide_eq_false (by omega)]
      have rv := hr1 v (by simp) k' hbv
      have rv2 : mm ≤ at2 has' v k mm v k' := by unfold at2; split <;> omega
      have bl3 := F3.le hv1 hk' (Int.le_refl _)
      have qk' := hql _ (lAt_mem hk')
      simp -dsimp only [b1, B.ld_eq, b2, hlt, B.cond_false, x3, x4, y3, y4, V.bin_sub, B.pv_some]
      rw [wrap_i64 (by omega) (by omega)]
      rw [show at2 has' v k mm v k' - mm = at2 has' v k mm v k' + -mm by omega]
      refine hasSt o3 hv1 hk' fun h4 o4 => ?_
      rw [set2_at] at o4
      have hsv' : serves (lAt L k') (wAt W v) = true := F.sv v hv1 k' hk' (by omega)
      have F4 := F3.add hv1 hk' (d := -mm) (by omega) hsv'
      rw [at1_back, show at1 (fun _ => 0) k' (- -mm) = at1 (fun _ => 0) k' mm by rw [Int.neg_neg]] at F4
      obtain ⟨b3, b4⟩ := bAt o4.le hv1
      rw [hbv] at b4
      simp -dsimp only [b3, B.ld_eq, b4, B.pv_some]
      simp only [List.nodup_cons] at hnd1
      refine hY vs2.length _ _ (by simp) ⟨vs2, k', _, rfl, rfl, o4, F4, hp2, hnd1.2, fun u hu k2 hb2 => ?_⟩
      have hne : u ≠ v := fun e => hnd1.1 (by rw [← e]; exact hu)
      have := hr1 u (by simp [hu]) k2 hb2
      simp only [at2, hne, false_and, if_false]
      exact this
end Go.Ab

/- What is proved: the search for a way: plain facts. No program in sight. No conditions. -/
set_option linter.unusedVariables false
set_option linter.unusedSimpArgs false
namespace Go.Ab
theorem nodup_lt : ∀ (n : Nat) (l : List Nat), l.Nodup → (∀ v ∈ l, v < n) → l.length ≤ n
  | 0, l, _, h => by
    cases l with
    | nil => simp
    | cons a l => have := h a (by simp); omega
  | n + 1, l, hd, h => by
    by_cases hm : n ∈ l
    · have := nodup_lt n (l.erase n) (hd.erase n) fun v hv => by
        rw [hd.mem_erase_iff] at hv
        have := h v hv.2; omega
      rw [List.length_erase_of_mem hm] at this
      omega
    · have := nodup_lt n l hd fun v hv => by
        have := h v hv
        have : v ≠ n := fun e => hm (by rw [← e]; exact hv)
        omega
      omega
/-- How far the search has come. -/
structure BFS (L : List Lot) (W : List Want) (has : Hs) (w : Nat) (rows : List Nat) (f b : Nat → Int) : Prop where
  nd : rows.Nodup
  lt : ∀ v ∈ rows, v < W.length
  root : rows[0]? = some w
  rb : b w = -1
  out : ∀ u < W.length, u ∉ rows → b u = -2
  inn : ∀ i v, rows[i]? = some v → v ≠ w → ∃ k : Nat, k < L.length ∧ b v = (k : Int) ∧ 0 < has v k ∧ ∃ j : Nat, ∃ v' : Nat, j < i ∧ rows[j]? = some v' ∧ f k = (v' : Int) ∧ serves (lAt L k) (wAt W v') = true
  fr : ∀ k < L.length, f k = -1 ∨ ∃ v : Nat, v ∈ rows ∧ f k = (v : Int) ∧ serves (lAt L k) (wAt W v) = true
section
variable {L : List Lot} {W : List Want} {has : Hs} {w : Nat} {rows : List Nat} {f b : Nat → Int}
theorem BFS.len (B : BFS L W has w rows f b) : rows.length ≤ W.length := nodup_lt _ _ B.nd B.lt
theorem BFS.wlt (B : BFS L W has w rows f b) : w < W.length := B.lt w (List.mem_of_getElem? B.root)
theorem BFS.byIn (B : BFS L W has w rows f b) {u : Nat} (hu : u ∈ rows) : b u ≠ -2 := by
  by_cases e : u = w
  · subst e; rw [B.rb]; omega
  · obtain ⟨i, hi⟩ := List.mem_iff_getElem?.1 hu
    obtain ⟨k, _, h, _⟩ := B.inn i u hi e
    rw [h]; omega
theorem BFS.path (B : BFS L W has w rows f b) : ∀ (i : Nat) {k v : Nat}, k < L.length → rows[i]? = some v → f k = (v : Int) → serves (lAt L k) (wAt W v) = true →
    ∃ vs, Path L W f b w k vs ∧ vs.Nodup ∧ Rich has b 1 vs ∧ ∀ u ∈ vs, ∃ j, j ≤ i ∧ rows[j]? = some u := by
  intro i
  induction i using Nat.strongRecOn with
  | _ i ih =>
    intro k v hk hv hf hs
    by_cases e : v = w
    · subst e
      exact ⟨[v], .last hk B.wlt hf hs (by rw [B.rb]; omega), List.pairwise_singleton _ _, fun u hu k' hb => by
        rw [List.mem_singleton.1 hu, B.rb] at hb; omega, fun u hu => by rw [List.mem_singleton.1 hu]; exact ⟨i, Nat.le_refl _, hv⟩⟩
    · obtain ⟨k', hk', hb, hh, j, v', hj, hv', hf', hs'⟩ := B.inn i v hv e
      obtain ⟨vs, p1, p2, p3, p4⟩ := ih j hj hk' hv' hf' hs'
      refine ⟨v :: vs, .more hk (B.lt v (List.mem_of_getElem? hv)) hf hs hb p1, List.nodup_cons.2 ⟨fun hm => ?_, p2⟩, fun u hu k2 hb2 => ?_, fun u hu => ?_⟩
      · obtain ⟨j2, hj2, hr⟩ := p4 v hm
        obtain ⟨g1, g2⟩ := List.getElem?_eq_some_iff.1 hv
        obtain ⟨g3, g4⟩ := List.getElem?_eq_some_iff.1 hr
        have := List.getElem_inj (h₀ := g1) (h₁ := g3) B.nd
        have := this.1 (by rw [g2, g4])
        omega
      · rcases List.mem_cons.1 hu with rfl | hu
        · rw [hb] at hb2
          have : k' = k2 := by omega
          subst this; omega
        · exact p3 u hu k2 hb2
      · rcases List.mem_cons.1 hu with rfl | hu
        · exact ⟨i, Nat.le_refl _, hv⟩
        · obtain ⟨j2, h1, h2⟩ := p4 u hu
          exact ⟨j2, by omega, h2⟩
def put1 (f : Nat → Int) (k : Nat) (x : Int) : Nat → Int := fun j => if j = k then x else f j
theorem BFS.setF (B : BFS L W has w rows f b) {k v : Nat} (hk : f k = -1) (hv : v ∈ rows) (hs : serves (lAt L k) (wAt W v) = true) : BFS L W has w rows (put1 f k v) b where
  nd := B.nd
  lt := B.lt
  root := B.root
  rb := B.rb
  out := B.out
  inn i u hu hne := by
    obtain ⟨k', hk', hb, hh, j, v', hj, hv', hf', hs'⟩ := B.inn i u hu hne
    refine ⟨k', hk', hb, hh, j, v', hj, hv', ?_, hs'⟩
    unfold put1
    rw [if_neg]
    · exact hf'
    · intro e; subst e; rw [hk] at hf'; omega
  fr j hj := by
    unfold put1
    by_cases e : j = k
    · subst e; rw [if_pos rfl]; exact .inr ⟨v, hv, rfl, hs⟩
    · rw [if_neg e]; exact B.fr j hj
theorem BFS.addR (B : BFS L W has w rows f b) {u k i v : Nat} (hu : u < W.length) (hb : b u = -2) (hk : k < L.length) (hh : 0 < has u k) (hv : rows[i]? = some v) (hf : f k = (v : Int)) (hs : serves (lAt L k) (wAt W v) = true) : BFS L W has w (rows ++ [u]) f (put1 b u k) := by
  have hnu : u ∉ rows := fun h => B.byIn h hb
  have hil := (List.getElem?_eq_some_iff.1 hv).1
  have hne : ∀ x ∈ rows, x ≠ u := fun x hx e => hnu (by rw [← e]; exact hx)
  have hw : w ∈ rows := List.mem_of_getElem? B.root
  refine ⟨?_, ?_, ?_, ?_, ?_, ?_, ?_⟩
  · rw [List.nodup_append]
    exact ⟨B.nd, List.pairwise_singleton _ _, fun a ha c hc => by rw [List.mem_singleton.1 hc]; exact hne a ha⟩
  · intro x hx
    rcases List.mem_append.1 hx with hx | hx
    · exact B.lt x hx
    · rw [List.mem_singleton.1 hx]; exact hu
  · rw [List.getElem?_append_left (by omega)]; exact B.root
  · unfold put1; rw [if_neg (hne w hw)]; exact B.rb
  · intro x hx hxr
    unfold put1
    rw [if_neg (fun e => hxr (by simp [e]))]
    exact B.out x hx fun h => hxr (by simp [h])
  · intro j x hx hxw
    rcases Nat.lt_or_ge j rows.length with hj | hj
    · rw [List.getElem?_append_left hj] at hx
      obtain ⟨k', hk', hb', hh', j', v', hj', hv', hf', hs'⟩ := B.inn j x hx hxw
      refine ⟨k', hk', ?_, hh', j', v', hj', ?_, hf', hs'⟩
      · unfold put1; rw [if_neg (hne x (List.mem_of_getElem? hx))]; exact hb'
      · rw [List.getElem?_append_left (by omega)]; exact hv'
    · have hjl : j < (rows ++ [u]).length := (List.getElem?_eq_some_iff.1 hx).1
      rw [List.length_append, List.length_singleton] at hjl
      have : j = rows.length := by omega
      subst this
      rw [List.getElem?_append_right (Nat.le_refl _)] at hx
      simp at hx
      subst hx
      refine ⟨k, hk, by unfold put1; rw [if_pos rfl], hh, i, v, hil, ?_, hf, hs⟩
      rw [List.getElem?_append_left hil]; exact hv
  · intro j hj
    rcases B.fr j hj with h | ⟨x, hx, h1, h2⟩
    · exact .inl h
    · exact .inr ⟨x, by simp [hx], h1, h2⟩
theorem BFS.start {w : Nat} (hw : w < W.length) (f b : Nat → Int) (hf : ∀ k < L.length, f k = -1) (hb : ∀ u < W.length, b u = if u = w then -1 else -2) : BFS L W has w [w] f b where
  nd := List.pairwise_singleton _ _
  lt v hv := by rw [List.mem_singleton.1 hv]; exact hw
  root := rfl
  rb := by rw [hb w hw, if_pos rfl]
  out u hu hn := by rw [hb u hu, if_neg fun e => hn (by simp [e])]
  inn i v hv hne := by
    cases i with
    | zero => simp at hv; exact absurd hv.symm hne
    | succ i => simp at hv
  fr k hk := .inl (hf k hk)
/-- The search is over: no way. -/
theorem BFS.none_ {left nd : Nat → Int} (hn : (L.map Lot.Id).Nodup) (F : FF L W has left nd fun _ => 0) (B : BFS L W has w rows f b) (hnd : 0 < nd w) (hnn : ∀ v < W.length, 0 ≤ nd v)
    (hA : ∀ v ∈ rows, ∀ k < L.length, serves (lAt L k) (wAt W v) = true → 0 ≤ f k) (hdead : ∀ k < L.length, 0 ≤ f k → left k = 0) (hfull : ∀ k < L.length, 0 ≤ f k → ∀ u < W.length, 0 < has u k → u ∈ rows) : ¬ Hall L W :=
  F.stuck hn (S := fun u => decide (u ∈ rows)) (T := fun k => decide (0 ≤ f k)) B.wlt (decide_eq_true (List.mem_of_getElem? B.root)) hnd hnn
    (fun v hv k hk hS hs => decide_eq_true (hA v (of_decide_eq_true hS) k hk hs))
    (fun k hk hT => hdead k hk (of_decide_eq_true hT))
    (fun k hk u hu hT hh => decide_eq_true (hfull k hk (of_decide_eq_true hT) u hu hh))
end
end Go.Ab

/- What is proved: contract of the document's answer: a way is sought. No conditions. -/
set_option linter.unusedVariables false
set_option linter.unusedSimpArgs false
namespace Go.Ab
variable {C : CSem} {N : Nat → Nat}
abbrev natC (v : Nat) : List AVal := [.int .i64 (v : Int)]
/-- What wants have, and what is left, as it stands. -/
structure HR (h : AHeap) (n m : Nat) (hv lf : AVal) (xs : Nat → AVal) (has : Hs) (left : Nat → Int) : Prop where
  hvA : ∀ {hh : AHeap}, h.le hh → ∀ {v : Nat}, v < n → V.idxS 1 hv (.int .i64 (v : Int)) = some (elp 1 hv v 0) ∧ A.ldv hh (elp 1 hv v 0) = some (xs v)
  hsA : ∀ {hh : AHeap}, h.le hh → ∀ {v k : Nat}, v < n → k < m → V.idxS 1 (xs v) (.int .i64 (k : Int)) = some (elp 1 (xs v) k 0) ∧ A.ldv hh (elp 1 (xs v) k 0) = some (.int .i64 (has v k))
  lfA : ∀ {hh : AHeap}, h.le hh → ∀ {k : Nat}, k < m → V.idxS 1 lf (.int .i64 (k : Int)) = some (elp 1 lf k 0) ∧ A.ldv hh (elp 1 lf k 0) = some (.int .i64 (left k))
theorem put1_set (n k : Nat) (f : Nat → Int) (x : Int) : (ints n f).set k [.int .i64 x] = ints n (put1 f k x) := ints_set f x
section
variable {h0 h : AHeap} {L : List Lot} {W : List Want} {Q : AVal → AHeap → Prop} {Y1 Y2 : List AVal → AHeap → Prop} {x y hv lf fr by_ z need : AVal} {xs : Nat → AVal} {has : Hs} {left nd : Nat → Int} {R S : List (List AVal)} {w at_ v k : Nat} {rows : List Nat} {f b : Nat → Int}
abbrev WO (L : List Lot) (W : List Want) (fr by_ z : AVal) (f b : Nat → Int) (rows : List Nat) : List Ob := [.sl 1 fr (ints L.length f) [], .sl 1 by_ (ints W.length b) [], .sl 1 z (rows.map natC) []]
/-- All wants that have something of a lot are come to. -/
theorem way_c (hr : HR h0 W.length L.length hv lf xs has left) (hy : SlX h0 3 y (W.map Want.cs) S) (hW : W.length ≤ 20000) (hL : L.length ≤ 300) (hv1 : rows[at_]? = some v) (hk : k < L.length) (hf : f k = (v : Int)) (hs : serves (lAt L k) (wAt W v) = true)
    (G : BFS L W has w rows f b) (o : Owns h0 h (WO L W fr by_ z f b rows))
    (hq : ∀ z' rows' b' h', Owns h0 h' (WO L W fr by_ z' f b' rows') → BFS L W has w rows' f b' → (∃ ext, rows' = rows ++ ext) → (∀ u < W.length, 0 < has u k → u ∈ rows') → Y2 [z', .int .i64 ((k + 1 : Nat) : Int)] h') :
    LoopR (ref05_way.l2 C N Q Y1 Y2 x y hv lf need fr by_ (.int .i64 (at_ : Int)) (.int .i64 (v : Int)) (.int .i64 (k : Int))) [z, .int .i64 0] h := by
  have e2 := hy.lenSl
  rw [List.length_map] at e2
  refine LoopR.intro (fun t vs hh => ∃ (u : Nat) (z : AVal) (rows' : List Nat) (b' : Nat → Int), u + t = W.length ∧ vs = [z, .int .i64 (u : Int)] ∧ Owns h0 hh (WO L W fr by_ z f b' rows') ∧ BFS L W has w rows' f b' ∧ (∃ ext, rows' = rows ++ ext) ∧ ∀ j < u, 0 < has j k → j ∈ rows') W.length ?_ ⟨0, z, rows, b, by omega, rfl, o, G, ⟨[], by simp⟩, fun j hj => by omega⟩
  rintro Z t vs hh ⟨u, z, rows', b', hut, rfl, o, G, ⟨ext, hext⟩, hin⟩ hZ
  simp -dsimp only [ref05_way.l2, ref05_way.k1, e2, lssN, B.pv_some]
  refine B.cond_bool (fun hc => ?_) (fun hc => ?_) <;> simp only [decide_eq_true_eq, decide_eq_false_iff_not] at hc
  · obtain ⟨b1, b2⟩ := (o.slAt 1 rfl).intAt hc
    obtain ⟨x1, x2⟩ := hr.hvA o.le hc
    obtain ⟨y1, y2⟩ := hr.hsA o.le hc hk
    have ad := add1 (show u < 4611686018427387904 by omega)
    have hv1' : rows'[at_]? = some v := by rw [hext, List.getElem?_append_left (List.getElem?_eq_some_iff.1 hv1).1]; exact hv1
    simp +contextual -dsimp [b1, b2, x1, x2, y1, y2]
    refine B.cond_bool (fun hd => ?_) (fun hd => ?_)
    · simp only [Bool.and_eq_true, decide_eq_true_eq] at hd
      simp -dsimp only [b1, B.pv_some]
      refine o.st 1 rfl (i := u) (f := 0) (ints_get _ hc) (by omega) rfl fun h2 o2 _ => ?_
      have es1 : ∀ (a b : AVal), ([a].set 0 b) = [b] := fun _ _ => rfl
      simp only [List.set_cons_zero, List.set_cons_succ, es1, put1_set] at o2
      have B2 := G.addR hc hd.1 hk hd.2 hv1' hf hs
      have hlen := B2.len
      rw [List.length_append, List.length_singleton] at hlen
      have fl : fillL [(0, none, AVal.int .i64 (u : Int))] (repL 1 [.int .i64 0]) = some [.int .i64 (u : Int)] := by simp [repL]
      simp -dsimp only [fl, B.pv_some]
      refine o2.push 2 rfl (cs := natC u) rfl (by omega) (by simp; omega) (by simp [maxLen]; omega) fun z' h3 o3 _ => ?_
      simp only [List.set_cons_zero, List.set_cons_succ] at o3
      simp -dsimp only [ad, B.pv_some]
      refine hZ (W.length - (u + 1)) _ _ (by omega) ⟨u + 1, z', rows' ++ [u], _, by omega, rfl, by simpa [WO] using o3, B2, ⟨ext ++ [u], by rw [hext]; simp⟩, fun j hj hjh => ?_⟩
      by_cases e : j = u
      · subst e; simp
      · have := hin j (by omega) hjh; simp [this]
    · simp -dsimp only [ad, B.pv_some]
      refine hZ (W.length - (u + 1)) _ _ (by omega) ⟨u + 1, z, rows', b', by omega, rfl, o, G, ⟨ext, hext⟩, fun j hj hjh => ?_⟩
      by_cases e : j = u
      · subst e
        rcases Classical.em (j ∈ rows') with h | h
        · exact h
        · exfalso
          have := G.out j hc h
          simp [this] at hd; omega
      · exact hin j (by omega) hjh
  · simp -dsimp only [add1 (show k < 4611686018427387904 by omega), B.pv_some]
    exact hq z rows' b' hh o G ⟨ext, hext⟩ fun u hu hh => hin u (by omega) hh
/-- What is known of all lots that were come to. -/
structure Known (L : List Lot) (W : List Want) (has : Hs) (left : Nat → Int) (rows : List Nat) (f : Nat → Int) : Prop where
  dead : ∀ j < L.length, 0 ≤ f j → left j = 0
  full : ∀ j < L.length, 0 ≤ f j → ∀ u < W.length, 0 < has u j → u ∈ rows
/-- A way is gone. -/
theorem way_along {hA : AHeap} {Rv : List (List AVal)} {n : Int} (s2 : ref05_along.Spec C N) (hhv : SlX hA 1 hv (fills W.length fun w => [xs w]) Rv) (o0 : Owns hA h0 (HasO W.length L.length xs has ++ [.sl 1 lf (ints L.length left) []])) (F : FF L W has left nd fun _ => 0) (hql : ∀ l ∈ L, l.Qty ≤ 1073741824)
    (G : BFS L W has w rows f b) (o : Owns h0 h (WO L W fr by_ z f b rows)) {i : Nat} (hv1 : rows[i]? = some v) (hk : k < L.length) (hf : f k = (v : Int)) (hs : serves (lAt L k) (wAt W v) = true) (hl : 0 < left k) (hn : 0 < n)
    (yes : ∀ h' has' left' more, 0 < more → more ≤ n → FF L W has' left' (at1 nd w (-more)) (fun _ => 0) → Owns hA h' (HasO W.length L.length xs has' ++ [.sl 1 lf (ints L.length left') []]) → Q (.int .i64 more) h') :
    C (N 242) [hv, lf, fr, by_, .int .i64 (k : Int), .int .i64 n] h Q := by
  obtain ⟨vs, p1, p2, p3, _⟩ := G.path i hk hv1 hf hs
  obtain ⟨oa, ob⟩ := ((o0.join o).perm List.perm_append_comm).out
  exact s2 _ _ hv lf fr by_ xs L W has left nd f b Rv [] [] k w vs n Q (hhv.mono oa.le) (oa.is (.sl 1 fr (ints L.length f) []) (by simp [WO])) (oa.is (.sl 1 by_ (ints W.length b) []) (by simp [WO])) ob F hql p1 p2 p3 hl hn
    fun h' has' left' more m1 m2 F' o' => yes h' has' left' more m1 m2 F' (o'.back oa.le)
/-- All lots that serve a want are come to. -/
theorem way_b {hA : AHeap} {Rv : List (List AVal)} {n : Int} (s1 : ref05_Serves.Spec C N) (s2 : ref05_along.Spec C N) (hhv : SlX hA 1 hv (fills W.length fun w => [xs w]) Rv) (o0 : Owns hA h0 (HasO W.length L.length xs has ++ [.sl 1 lf (ints L.length left) []])) (F : FF L W has left nd fun _ => 0) (hql : ∀ l ∈ L, l.Qty ≤ 1073741824)
    (hr : HR h0 W.length L.length hv lf xs has left) (hx : SlX h0 6 x (L.map Lot.cs) R) (hy : SlX h0 3 y (W.map Want.cs) S) (hW : W.length ≤ 20000) (hL : L.length ≤ 300) (hn : 0 < n) (hv1 : rows[at_]? = some v)
    (G : BFS L W has w rows f b) (K : Known L W has left rows f) (o : Owns h0 h (WO L W fr by_ z f b rows))
    (yes : ∀ h' has' left' more, 0 < more → more ≤ n → FF L W has' left' (at1 nd w (-more)) (fun _ => 0) → Owns hA h' (HasO W.length L.length xs has' ++ [.sl 1 lf (ints L.length left') []]) → Q (.int .i64 more) h')
    (hq : ∀ z' rows' f' b' h', Owns h0 h' (WO L W fr by_ z' f' b' rows') → BFS L W has w rows' f' b' → Known L W has left rows' f' → (∃ ext, rows' = rows ++ ext) → (∀ j, 0 ≤ f j → 0 ≤ f' j) → (∀ j < L.length, serves (lAt L j) (wAt W v) = true → 0 ≤ f' j) → Y1 [z', .int .i64 ((at_ + 1 : Nat) : Int)] h') :
    LoopR (ref05_way.l6 C N Q Y1 x y hv lf (.int .i64 n) fr by_ (.int .i64 (at_ : Int)) (.int .i64 (v : Int))) [z, .int .i64 0] h := by
  have e1 := hx.lenSl
  rw [List.length_map] at e1
  have hat : at_ < rows.length := (List.getElem?_eq_some_iff.1 hv1).1
  have hrl := G.len
  refine LoopR.intro (fun t vs hh => ∃ (k : Nat) (z : AVal) (rows' : List Nat) (f' b' : Nat → Int), k + t = L.length ∧ vs = [z, .int .i64 (k : Int)] ∧ Owns h0 hh (WO L W fr by_ z f' b' rows') ∧ BFS L W has w rows' f' b' ∧ Known L W has left rows' f' ∧ (∃ ext, rows' = rows ++ ext) ∧ (∀ j, 0 ≤ f j → 0 ≤ f' j) ∧ ∀ j < k, serves (lAt L j) (wAt W v) = true → 0 ≤ f' j) L.length ?_ ⟨0, z, rows, f, b, by omega, rfl, o, G, K, ⟨[], by simp⟩, fun j hj => hj, fun j hj => by omega⟩
  rintro Z t vs hh ⟨k, z, rows', f', b', hkt, rfl, o, G, K, ⟨ext, hext⟩, hmono, hdone⟩ hZ
  simp -dsimp only [ref05_way.l6, ref05_way.k5, e1, lssN, B.pv_some]
  refine B.cond_bool (fun hc => ?_) (fun hc => ?_) <;> simp only [decide_eq_true_eq, decide_eq_false_iff_not] at hc
  · obtain ⟨f1, f2⟩ := (o.slAt 0 rfl).intAt hc
    have hv1' : rows'[at_]? = some v := by rw [hext, List.getElem?_append_left hat]; exact hv1
    have hvW := G.lt v (List.mem_of_getElem? hv1')
    have a := (hx.mono o.le).lotAt hc
    have ael := a.el _ (lAt_some hc)
    have bw := (hy.mono o.le).wantAt hvW
    have ad := add1 (show k < 4611686018427387904 by omega)
    have skip : (0 ≤ f' k ∨ serves (lAt L k) (wAt W v) = false) → Z [z, .int .i64 ((k + 1 : Nat) : Int)] hh := fun hsk => by
      refine hZ (L.length - (k + 1)) _ _ (by omega) ⟨k + 1, z, rows', f', b', by omega, rfl, o, G, K, ⟨ext, hext⟩, hmono, fun j hj hjs => ?_⟩
      by_cases e : j = k
      · subst e
        rcases hsk with h | h
        · exact h
        · rw [h] at hjs; cases hjs
      · exact hdone j (by omega) hjs
    by_cases hfk : 0 ≤ f' k
    · simp -dsimp [ref05_way.k4, f1, f2, hfk, ad]
      have := skip (.inl hfk)
      simpa using this
    · have hfk1 : f' k = -1 := by
        rcases G.fr k hc with h | ⟨u, _, h, _⟩
        · exact h
        · omega
      simp -dsimp [ref05_way.k4, f1, f2, hfk1, a.ix, ael, bw.ix, bw.el]
      refine s1 _ _ _ _ ?_
      cases hs : serves (lAt L k) (wAt W v) with
      | false =>
        simp -dsimp [ad]
        have := skip (.inr hs)
        simpa using this
      | true =>
        simp -dsimp [f1]
        refine o.st 0 rfl (i := k) (f := 0) (ints_get _ hc) (by omega) rfl fun h2 o2 _ => ?_
        have es1 : ∀ (a b : AVal), ([a].set 0 b) = [b] := fun _ _ => rfl
        simp only [List.set_cons_zero, es1, put1_set] at o2
        have G2 := G.setF hfk1 (List.mem_of_getElem? hv1') hs
        have pk : put1 f' k (v : Int) k = (v : Int) := by unfold put1; rw [if_pos rfl]
        obtain ⟨l1, l2⟩ := hr.lfA o2.le hc
        simp -dsimp only [ref05_way.k3, l1, B.ld_eq, l2, V.bin_gtr, B.pv_some]
        refine B.cond_bool (fun hd => ?_) (fun hd => ?_) <;> simp only [decide_eq_true_eq, decide_eq_false_iff_not] at hd
        · exact way_along s2 hhv o0 F hql G2 o2 hv1' hc pk hs hd hn yes
        · have hl0 : left k = 0 := by have := F.ln k; omega
          refine way_c hr hy hW hL hv1' hc pk hs G2 o2 fun z3 rows3 b3 h3 o3 G3 hext3 hin3 => ?_
          obtain ⟨ext3, he3⟩ := hext3
          refine hZ (L.length - (k + 1)) _ _ (by omega) ⟨k + 1, z3, rows3, put1 f' k v, b3, by omega, rfl, o3, G3, ⟨fun j hj hfj => ?_, fun j hj hfj u hu hh => ?_⟩, ⟨ext ++ ext3, by rw [he3, hext]; simp⟩, fun j hj => ?_, fun j hj hjs => ?_⟩
          · unfold put1 at hfj
            by_cases e : j = k
            · subst e; exact hl0
            · rw [if_neg e] at hfj; exact K.dead j hj hfj
          · unfold put1 at hfj
            by_cases e : j = k
            · subst e; exact hin3 u hu hh
            · rw [if_neg e] at hfj
              have := K.full j hj hfj u hu hh
              rw [he3]; simp [this]
          · unfold put1; split
            · omega
            · exact hmono j hj
          · unfold put1
            by_cases e : j = k
            · rw [if_pos e]; omega
            · rw [if_neg e]; exact hdone j (by omega) hjs
  · simp -dsimp only [add1 (show at_ < 4611686018427387904 by omega), B.pv_some]
    exact hq z rows' f' b' hh o G K ⟨ext, hext⟩ hmono fun j hj hjs => hdone j (by omega) hjs
end
end Go.Ab

/- What is proved: contract of the document's answer: a way is sought, from the beginning. No conditions. -/
set_option linter.unusedVariables false
set_option linter.unusedSimpArgs false
namespace Go.Ab
variable {C : CSem} {N : Nat → Nat}
section
variable {h0 h : AHeap} {L : List Lot} {W : List Want} {Q : AVal → AHeap → Prop} {x y hv lf fr by_ z : AVal} {xs : Nat → AVal} {has : Hs} {left nd : Nat → Int} {R S : List (List AVal)} {w : Nat} {f b : Nat → Int}
theorem way_a {hA : AHeap} {Rv : List (List AVal)} {n : Int} (s1 : ref05_Serves.Spec C N) (s2 : ref05_along.Spec C N) (hhv : SlX hA 1 hv (fills W.length fun w => [xs w]) Rv) (o0 : Owns hA h0 (HasO W.length L.length xs has ++ [.sl 1 lf (ints L.length left) []])) (F : FF L W has left nd fun _ => 0) (hql : ∀ l ∈ L, l.Qty ≤ 1073741824) (hni : (L.map Lot.Id).Nodup) (hndw : 0 < nd w) (hnn : ∀ v < W.length, 0 ≤ nd v)
    (hr : HR h0 W.length L.length hv lf xs has left) (hx : SlX h0 6 x (L.map Lot.cs) R) (hy : SlX h0 3 y (W.map Want.cs) S) (hW : W.length ≤ 20000) (hL : L.length ≤ 300) (hn : 0 < n)
    (G : BFS L W has w [w] f b) (hf : ∀ k < L.length, f k = -1) (o : Owns h0 h (WO L W fr by_ z f b [w]))
    (no : ∀ h', h0.le h' → ¬ Hall L W → Q (.int .i64 0) h')
    (yes : ∀ h' has' left' more, 0 < more → more ≤ n → FF L W has' left' (at1 nd w (-more)) (fun _ => 0) → Owns hA h' (HasO W.length L.length xs has' ++ [.sl 1 lf (ints L.length left') []]) → Q (.int .i64 more) h') :
    LoopR (ref05_way.l8 C N Q x y hv lf (.int .i64 n) fr by_) [z, .int .i64 0] h := by
  refine LoopR.intro (fun t vs hh => ∃ (i : Nat) (z : AVal) (rows : List Nat) (f' b' : Nat → Int), i + t = W.length ∧ vs = [z, .int .i64 (i : Int)] ∧ Owns h0 hh (WO L W fr by_ z f' b' rows) ∧ BFS L W has w rows f' b' ∧ Known L W has left rows f' ∧ i ≤ rows.length ∧
    ∀ j < i, ∀ v, rows[j]? = some v → ∀ k < L.length, serves (lAt L k) (wAt W v) = true → 0 ≤ f' k) W.length ?_ ⟨0, z, [w], f, b, by omega, rfl, o, G, ⟨fun j hj h => (by rw [hf j hj] at h; omega), fun j hj h => (by rw [hf j hj] at h; omega)⟩, by simp, fun j hj => by omega⟩
  rintro Z t vs hh ⟨i, z, rows, f', b', hit, rfl, o, G, K, hil, hdone⟩ hZ
  have ez := (o.slAt 2 rfl).lenSl
  rw [List.length_map] at ez
  have hrl := G.len
  simp -dsimp only [ref05_way.l8, ref05_way.k7, ez, lssN, B.pv_some]
  refine B.cond_bool (fun hc => ?_) (fun hc => ?_) <;> simp only [decide_eq_true_eq, decide_eq_false_iff_not] at hc
  · have hg : (rows.map natC)[i]? = some (natC rows[i]) := by rw [List.getElem?_map, List.getElem?_eq_getElem hc]; rfl
    have ix : V.idxS 1 z (.int .i64 (i : Int)) = some (elp 1 z i 0) := (o.slAt 2 rfl).idxN (by simpa using hc)
    simp -dsimp only [ix, B.ld_eq, (o.slAt 2 rfl).cell hg, B.pv_some]
    refine way_b s1 s2 hhv o0 F hql hr hx hy hW hL hn (List.getElem?_eq_getElem hc) G K o yes fun z' rows' f2 b2 h' o' G' K' hext hm hd => ?_
    obtain ⟨ext, he⟩ := hext
    have hl' : rows.length ≤ rows'.length := by rw [he]; simp
    have := G'.len
    refine hZ (W.length - (i + 1)) _ _ (by omega) ⟨i + 1, z', rows', f2, b2, by omega, rfl, o', G', K', by omega, fun j hj v hv k hk hs => ?_⟩
    rw [he, List.getElem?_append_left (by omega)] at hv
    by_cases e : j = i
    · subst e
      rw [List.getElem?_eq_getElem hc] at hv
      cases hv
      exact hd k hk hs
    · exact hm k (hdone j (by omega) v hv k hk hs)
  · refine no hh o.le (G.none_ hni F hndw hnn (fun v hv k hk hs => ?_) K.dead K.full)
    obtain ⟨j, hj⟩ := List.mem_iff_getElem?.1 hv
    exact hdone j (by have := (List.getElem?_eq_some_iff.1 hj).1; omega) v hj k hk hs
end
def ref05_way.Spec (C : CSem) (N : Nat → Nat) : Prop := ∀ (hA h : AHeap) (x y hv lf : AVal) (xs : Nat → AVal) (L : List Lot) (W : List Want) (has : Hs) (left nd : Nat → Int) (R S Rv : List (List AVal)) (w : Nat) (n : Int) (Q : AVal → AHeap → Prop),
  SlX hA 6 x (L.map Lot.cs) R → SlX hA 3 y (W.map Want.cs) S → SlX hA 1 hv (fills W.length fun w => [xs w]) Rv → Owns hA h (HasO W.length L.length xs has ++ [.sl 1 lf (ints L.length left) []]) → FF L W has left nd (fun _ => 0) →
  mayBe L W = true → 0 < nd w → (∀ v < W.length, 0 ≤ nd v) → w < W.length → 0 < n →
  (∀ h', hA.le h' → ¬ Hall L W → Q (.int .i64 0) h') →
  (∀ h' has' left' more, 0 < more → more ≤ n → FF L W has' left' (at1 nd w (-more)) (fun _ => 0) → Owns hA h' (HasO W.length L.length xs has' ++ [.sl 1 lf (ints L.length left') []]) → Q (.int .i64 more) h') → C (N 233) [x, y, hv, lf, .int .i64 (w : Int), .int .i64 n] h Q
theorem ref05_way.spec (i : ref05_way.Imp C N) (s1 : ref05_Serves.Spec C N) (s2 : ref05_along.Spec C N) : ref05_way.Spec C N := by
  intro hA h x y hv lf xs L W has left nd R S Rv w n Q hxA hyA hhv o0 F hm hndw hnn hw hn no yes
  apply i
  obtain ⟨q1, q2, q3, q4, q5⟩ := mayBe_facts hm
  have hx := hxA.mono o0.le
  have hy := hyA.mono o0.le
  have e1 := hx.lenSl
  have e2 := hy.lenSl
  rw [List.length_map] at e1 e2
  have es1 : ∀ (a b : AVal), ([a].set 0 b) = [b] := fun _ _ => rfl
  have t2 : (W.length : Int).toNat = W.length := by omega
  have t1 : (L.length : Int).toNat = L.length := by omega
  have hr : HR h W.length L.length hv lf xs has left := ⟨fun hle _ hv' => ⟨hhv.idxN (by simpa using hv'), (hhv.mono (AHeap.le_trans o0.le hle)).cell (fills_get _ hv')⟩, fun hle _ _ hv' hk => ⟨(hasAt o0 hv' hk).1, ((o0.slAt _ (Objs.getA hv')).mono hle).intAt hk |>.2⟩, fun hle _ hk => ((o0.slAt W.length Objs.getL).mono hle).intAt hk⟩
  simp -dsimp only [ref05_way.cps, e1, B.pv_some]
  refine ⟨by omega, ?_⟩
  refine (Owns.start h).mks (bytes := 8) (es := 1) rfl (by omega) (by omega) (by omega) (by omega) fun fr h1 o1 => ?_
  simp only [List.nil_append, t1, Nat.sub_self, fills_zero] at o1
  simp -dsimp only [ref05_way.k14, e2, B.pv_some]
  refine ⟨by omega, ?_⟩
  refine o1.mks (bytes := 8) (es := 1) rfl (by omega) (by omega) (by omega) (by omega) fun by_ h2 o2 => ?_
  simp only [List.cons_append, List.nil_append, t2, Nat.sub_self, fills_zero] at o2
  refine LoopR.intro (fun t vs hh => ∃ k : Nat, k + t = L.length ∧ vs = [.int .i64 (k : Int)] ∧ Owns h hh [.sl 1 fr (ints L.length fun j => if j < k then -1 else 0) [], .sl 1 by_ (ints W.length fun _ => 0) []]) L.length ?_ ⟨0, by omega, rfl, by simpa [ints] using o2⟩
  rintro Y t vs hh ⟨k, hkt, rfl, o⟩ hY
  have ef := (o.slAt 0 rfl).lenSl
  rw [ints_len] at ef
  simp -dsimp only [ref05_way.l13, ref05_way.k12, ef, lssN, B.pv_some]
  refine B.cond_bool (fun hc => ?_) (fun hc => ?_) <;> simp only [decide_eq_true_eq, decide_eq_false_iff_not] at hc
  · obtain ⟨c1, c2⟩ := (o.slAt 0 rfl).intAt hc
    simp -dsimp only [c1, B.pv_some]
    refine o.st 0 rfl (i := k) (f := 0) (ints_get _ hc) (by omega) rfl fun h3 o3 _ => ?_
    simp only [List.set_cons_zero, es1, ints_set] at o3
    simp -dsimp only [add1 (show k < 4611686018427387904 by omega), B.pv_some]
    refine hY (L.length - (k + 1)) _ _ (by omega) ⟨k + 1, by omega, rfl, ?_⟩
    rw [ints_step L.length k fun _ => -1]; exact o3
  · have o : Owns h hh [.sl 1 fr (ints L.length fun _ => -1) [], .sl 1 by_ (ints W.length fun _ => 0) []] := by
      rw [ints_congr (n := L.length) (g := fun _ => -1) fun j hj => by rw [if_pos (by omega)]] at o; exact o
    clear hY
    refine LoopR.intro (fun t vs hh => ∃ k : Nat, k + t = W.length ∧ vs = [.int .i64 (k : Int)] ∧ Owns h hh [.sl 1 fr (ints L.length fun _ => -1) [], .sl 1 by_ (ints W.length fun j => if j < k then -2 else 0) []]) W.length ?_ ⟨0, by omega, rfl, by simpa using o⟩
    rintro Y t vs hh ⟨k, hkt, rfl, o⟩ hY
    have eb := (o.slAt 1 rfl).lenSl
    rw [ints_len] at eb
    simp -dsimp only [ref05_way.l11, ref05_way.k10, eb, lssN, B.pv_some]
    refine B.cond_bool (fun hc => ?_) (fun hc => ?_) <;> simp only [decide_eq_true_eq, decide_eq_false_iff_not] at hc
    · obtain ⟨c1, c2⟩ := (o.slAt 1 rfl).intAt hc
      simp -dsimp only [c1, B.pv_some]
      refine o.st 1 rfl (i := k) (f := 0) (ints_get _ hc) (by omega) rfl fun h3 o3 _ => ?_
      simp only [List.set_cons_zero, List.set_cons_succ, es1, ints_set] at o3
      simp -dsimp only [add1 (show k < 4611686018427387904 by omega), B.pv_some]
      refine hY (W.length - (k + 1)) _ _ (by omega) ⟨k + 1, by omega, rfl, ?_⟩
      rw [ints_step W.length k fun _ => -2]; exact o3
    · have o : Owns h hh [.sl 1 fr (ints L.length fun _ => -1) [], .sl 1 by_ (ints W.length fun _ => -2) []] := by
        rw [ints_congr (n := W.length) (g := fun _ => -2) fun j hj => by rw [if_pos (by omega)]] at o; exact o
      clear hY
      obtain ⟨c1, c2⟩ := (o.slAt 1 rfl).intAt hw
      simp -dsimp only [c1, B.pv_some]
      refine o.st 1 rfl (i := w) (f := 0) (ints_get _ hw) (by omega) rfl fun h3 o3 _ => ?_
      simp only [List.set_cons_zero, List.set_cons_succ, es1, ints_set] at o3
      have fl : fillL [(0, none, AVal.int .i64 (w : Int))] (repL 1 [.int .i64 0]) = some [.int .i64 (w : Int)] := by simp [repL]
      simp -dsimp only [ref05_way.k9, fl]
      intro id hid
      have o4 := o3.newSl (L := [natC w]) (R := []) (n := 1) (cp := 1) (es := 1) (cs := [.int .i64 (w : Int)]) hid (by simp) rfl (by simp) rfl
      refine way_a s1 s2 hhv o0 F (fun l hl => by have := lotRight_facts (q3 l hl); omega) q4 hndw hnn hr hx hy q2 q1 hn (BFS.start hw (fun _ => -1) _ (fun _ _ => rfl) fun u _ => rfl) (fun _ _ => rfl) (by simpa [WO] using o4)
        (fun h' hle hh => dn_same (no h' (AHeap.le_trans o0.le hle) hh)) fun h' has' left' more m1 m2 F' o' => dn_same (yes h' has' left' more m1 m2 F' o')
end Go.Ab

/- What is proved: contract of the document's answer: do any uses serve the wants? No conditions. -/
set_option linter.unusedVariables false
set_option linter.unusedSimpArgs false
namespace Go.Ab
variable {C : CSem} {N : Nat → Nat}
theorem HasO_succ {k m : Nat} {xs : Nat → AVal} {has : Hs} {x : AVal} : HasO k m xs has ++ [.sl 1 x (ints m (has k)) []] = HasO (k + 1) m (upf xs k x) has := by
  unfold HasO Objs
  rw [List.range_succ, List.map_append]
  congr 1
  · refine List.map_congr_left fun j hj => ?_
    have := List.mem_range.1 hj
    simp only [upf, show j ≠ k by omega, if_false]
  · simp [upf]
def ref05_Any.Spec (C : CSem) (N : Nat → Nat) : Prop := ∀ (x y : AVal) (L : List Lot) (W : List Want) (R S : List (List AVal)) (h : AHeap) (Q : AVal → AHeap → Prop), SlX h 6 x (L.map Lot.cs) R → SlX h 3 y (W.map Want.cs) S → L.length < 4611686018427387904 → W.length < 4611686018427387904 →
  Q (.bool (greedy L W).isSome) h → C (N 216) [x, y] h Q
section
variable {h0 h : AHeap} {L : List Lot} {W : List Want} {Q : AVal → AHeap → Prop} {x y hv lf : AVal} {xs : Nat → AVal} {R S Rv : List (List AVal)}
/-- Want for want. -/
theorem any_all (s1 : ref05_way.Spec C N) (hx : SlX h0 6 x (L.map Lot.cs) R) (hy : SlX h0 3 y (W.map Want.cs) S) (hhv : SlX h0 1 hv (fills W.length fun w => [xs w]) Rv) (hm : mayBe L W = true) {has : Hs} {left : Nat → Int}
    (F : FF L W has left (fun j => (wAt W j).Qty) fun _ => 0) (o : Owns h0 h (HasO W.length L.length xs has ++ [.sl 1 lf (ints L.length left) []])) (hq : ∀ h', h0.le h' → Q (.bool (greedy L W).isSome) h') :
    LoopR (ref05_Any.l4 C N Q x y lf hv) [.int .i64 0] h := by
  obtain ⟨q1, q2, q3, q4, q5⟩ := mayBe_facts hm
  have e2 := hy.lenSl
  rw [List.length_map] at e2
  have qn : ∀ j < W.length, 1 ≤ (wAt W j).Qty ∧ (wAt W j).Qty ≤ 1125899906842624 := fun j hj => by
    have := wantRight_facts (q5 _ (wAt_in hj)); omega
  refine LoopR.intro (fun t vs hh => ∃ (i : Nat) (has : Hs) (left nd : Nat → Int), i + t = W.length ∧ vs = [.int .i64 (i : Int)] ∧ Owns h0 hh (HasO W.length L.length xs has ++ [.sl 1 lf (ints L.length left) []]) ∧ FF L W has left nd (fun _ => 0) ∧ (∀ j < i, nd j = 0) ∧ ∀ j, i ≤ j → nd j = (wAt W j).Qty) W.length ?_ ⟨0, has, left, _, by omega, rfl, o, F, fun j hj => by omega, fun j _ => rfl⟩
  rintro Y t vs hh ⟨i, has, left, nd, hit, rfl, o, F, hz, hr⟩ hY
  simp -dsimp only [ref05_Any.l4, ref05_Any.k3, e2, lssN, B.pv_some]
  refine B.cond_bool (fun hc => ?_) (fun hc => ?_) <;> simp only [decide_eq_true_eq, decide_eq_false_iff_not] at hc
  · have b := (hy.mono o.le).wantAt hc
    simp -dsimp only [b.ix, b.fa, B.ld_eq, b.qty, B.pv_some]
    have qi := qn i hc
    refine LoopR.intro (fun t vs hh => ∃ (n : Int) (has : Hs) (left nd : Nat → Int), t = n.toNat ∧ vs = [.int .i64 n] ∧ Owns h0 hh (HasO W.length L.length xs has ++ [.sl 1 lf (ints L.length left) []]) ∧ FF L W has left nd (fun _ => 0) ∧ nd i = n ∧ 0 ≤ n ∧ n ≤ 1125899906842624 ∧ (∀ j < i, nd j = 0) ∧ ∀ j, i < j → nd j = (wAt W j).Qty) (wAt W i).Qty.toNat ?_ ⟨_, has, left, nd, rfl, rfl, o, F, hr i (Nat.le_refl _), by omega, by omega, hz, fun j hj => hr j (by omega)⟩
    rintro Z t vs hh ⟨n, has, left, nd, rfl, rfl, o, F, hni, n0, n1, hz, hr⟩ hZ
    simp -dsimp only [ref05_Any.l2, ref05_Any.k1, V.bin_gtr, B.pv_some]
    refine B.cond_bool (fun hd => ?_) (fun hd => ?_) <;> simp only [decide_eq_true_eq, decide_eq_false_iff_not] at hd
    · refine s1 h0 _ _ _ _ _ xs L W has left nd _ _ _ i n _ hx hy hhv o F hm (by omega) (fun v hv' => ?_) hc hd (fun h' hle hno => ?_) fun h' has' left' more m1 m2 F' o' => ?_
      · rcases Nat.lt_trichotomy v i with h | h | h
        · rw [hz v h]; omega
        · subst h; omega
        · rw [hr v h]; have := qn v hv'; omega
      · simp -dsimp
        have : (greedy L W).isSome = false := by
          rw [← Bool.not_eq_true, greedy_hall hm]; exact hno
        rw [← this]; exact hq h' hle
      · have ne : V.bin .eql (.int .i64 more) (.int .i64 0) = some (.bool false) := by rw [V.bin_eql, decide_eq_false (by omega)]
        simp -dsimp only [ne, B.cond_false, V.bin_sub, B.pv_some]
        rw [wrap_i64 (by omega) (by omega)]
        refine hZ _ _ _ (by omega) ⟨n - more, has', left', _, rfl, rfl, o', F', by simp only [at1, if_true]; omega, by omega, by omega, fun j hj => ?_, fun j hj => ?_⟩
        · simp only [at1, show j ≠ i by omega, if_false]; exact hz j hj
        · simp only [at1, show j ≠ i by omega, if_false]; exact hr j hj
    · simp -dsimp only [add1 (show i < 4611686018427387904 by omega), B.pv_some]
      refine hY (W.length - (i + 1)) _ _ (by omega) ⟨i + 1, has, left, nd, by omega, rfl, o, F, fun j hj => ?_, fun j hj => hr j (by omega)⟩
      by_cases e : j = i
      · subst e; omega
      · exact hz j (by omega)
  · have : (greedy L W).isSome = true := (greedy_hall hm).2 (F.hall q4 fun w hw => hz w (by omega))
    rw [← this]; exact hq hh o.le
end
theorem ref05_Any.spec (i : ref05_Any.Imp C N) (s1 : ref05_May.Spec C N) (s2 : ref05_way.Spec C N) : ref05_Any.Spec C N := by
  intro x y L W R S h Q hx hy hlen hlen2 hq
  apply i
  have e1 := hx.lenSl
  have e2 := hy.lenSl
  rw [List.length_map] at e1 e2
  simp -dsimp only [ref05_Any.cps, ref05_Any.k9]
  refine s1 _ _ _ _ _ _ _ _ hx hy hlen hlen2 ?_
  simp -dsimp only [V.un_not, B.pv_some]
  cases hm : mayBe L W with
  | false =>
    simp -dsimp only [Bool.not_false, B.cond_true]
    have e : (greedy L W).isSome = false := by unfold greedy; rw [hm]; rfl
    rw [e] at hq
    exact dn_same hq
  | true =>
    obtain ⟨f1, f2, f3, f4, f5⟩ := mayBe_facts hm
    have es1 : ∀ (a b : AVal), ([a].set 0 b) = [b] := fun _ _ => rfl
    simp -dsimp only [Bool.not_true, B.cond_false, e1, B.pv_some]
    refine ⟨by omega, ?_⟩
    have t2 : (W.length : Int).toNat = W.length := by omega
    have t1 : (L.length : Int).toNat = L.length := by omega
    refine (Owns.start h).mks (bytes := 8) (es := 1) rfl (by omega) (by omega) (by omega) (by omega) fun lf h3 o3 => ?_
    simp only [List.nil_append, t1] at o3
    refine LoopR.intro (fun t vs hh => ∃ k : Nat, k + t = L.length ∧ vs = [.int .i64 (k : Int)] ∧ Owns h hh [.sl 1 lf (ints L.length fun j => if j < k then (lAt L j).Qty else 0) []]) L.length ?_ ⟨0, by omega, rfl, by simpa [ints] using o3⟩
    rintro Y t vs hh ⟨k, hkt, rfl, o⟩ hY
    simp -dsimp only [ref05_Any.l8, ref05_Any.k7, e1, lssN, B.pv_some]
    refine B.cond_bool (fun hc => ?_) (fun hc => ?_) <;> simp only [decide_eq_true_eq, decide_eq_false_iff_not] at hc
    · have b := (hx.mono o.le).lotAt hc
      obtain ⟨c1, c2⟩ := (o.slAt 0 rfl).intAt hc
      simp -dsimp only [b.ix, b.fa, B.ld_eq, b.qty _ (lAt_some hc), c1, B.pv_some]
      refine o.st 0 rfl (i := k) (f := 0) (ints_get _ hc) (by omega) rfl fun h2 o2 _ => ?_
      simp only [List.set_cons_zero, List.set_cons_succ, es1, ints_set] at o2
      simp -dsimp only [add1 (show k < 4611686018427387904 by omega), B.pv_some]
      refine hY (L.length - (k + 1)) _ _ (by omega) ⟨k + 1, by omega, rfl, ?_⟩
      rw [ints_step L.length k fun j => (lAt L j).Qty]; exact o2
    · have o : Owns h hh [.sl 1 lf (ints L.length fun k => (lAt L k).Qty) []] := by
        rw [ints_congr (n := L.length) (g := fun k => (lAt L k).Qty) fun j hj => by rw [if_pos (by omega)]] at o
        exact o
      clear hY
      simp -dsimp only [e2, B.pv_some]
      refine ⟨by omega, ?_⟩
      refine o.mks (bytes := 24) (es := 1) rfl (by omega) (by omega) (by omega) (by omega) fun hv h4 o4 => ?_
      simp only [List.cons_append, List.nil_append, t2, Nat.sub_self, fills_zero] at o4
      refine LoopR.intro (fun t vs hh => ∃ (k : Nat) (xs : Nat → AVal), k + t = W.length ∧ vs = [.int .i64 (k : Int)] ∧ Owns h hh (HasO k L.length xs (fun _ _ => 0) ++ [.sl 1 lf (ints L.length fun k => (lAt L k).Qty) [], .sl 1 hv (fills W.length fun j => [if j < k then xs j else .nils]) []])) W.length ?_ ⟨0, fun _ => .nils, by omega, rfl, by simpa [HasO, Objs] using o4⟩
      rintro Y t vs hh ⟨k, xs, hkt, rfl, o⟩ hY
      simp -dsimp only [ref05_Any.l6, ref05_Any.k5, e2, lssN, B.pv_some]
      refine B.cond_bool (fun hc => ?_) (fun hc => ?_) <;> simp only [decide_eq_true_eq, decide_eq_false_iff_not] at hc
      · simp -dsimp only [e1, B.pv_some]
        refine ⟨by omega, ?_⟩
        refine o.mks (bytes := 8) (es := 1) rfl (by omega) (by omega) (by omega) (by omega) fun nx h5 o5 => ?_
        simp only [t1, Nat.sub_self, fills_zero] at o5
        have o6 := o5.perm (l' := (HasO k L.length xs (fun _ _ => 0) ++ [.sl 1 nx (ints L.length fun _ => 0) []]) ++ [.sl 1 lf (ints L.length fun k => (lAt L k).Qty) [], .sl 1 hv (fills W.length fun j => [if j < k then xs j else .nils]) []]) (by
          rw [List.append_assoc, List.append_assoc]
          exact List.Perm.append_left _ List.perm_append_comm)
        rw [HasO_succ (has := fun _ _ => 0)] at o6
        have hg : (HasO (k + 1) L.length (upf xs k nx) (fun _ _ => 0) ++ [Ob.sl 1 lf (ints L.length fun k => (lAt L k).Qty) [], .sl 1 hv (fills W.length fun j => [if j < k then xs j else .nils]) []])[k + 1 + 1]? = some (.sl 1 hv (fills W.length fun j => [if j < k then xs j else .nils]) []) := by
          rw [List.getElem?_append_right (by simp [HasO])]; simp [HasO]
        have hhv := o6.slAt (k + 1 + 1) hg
        have ix : V.idxS 1 hv (.int .i64 (k : Int)) = some (elp 1 hv k 0) := hhv.idxN (by simpa using hc)
        simp -dsimp only [ix, B.pv_some]
        have hnx : nx.isCell = true := SlX.isCell (h := h5) (es := 1) (L := fills L.length fun _ => [.int .i64 0]) (R := []) (o5.is (.sl 1 nx (fills L.length fun _ => [.int .i64 0]) []) (by simp))
        refine o6.st (k + 1 + 1) hg (i := k) (f := 0) (fills_get _ hc) (by omega) hnx fun h7 o7 _ => ?_
        rw [List.set_append_right _ _ (by simp [HasO])] at o7
        simp only [HasO, Objs.length, Nat.add_sub_cancel_left, List.set_cons_succ, List.set_cons_zero, es1, fills_set] at o7
        simp -dsimp only [add1 (show k < 4611686018427387904 by omega), B.pv_some]
        refine hY (W.length - (k + 1)) _ _ (by omega) ⟨k + 1, upf xs k nx, by omega, rfl, ?_⟩
        have e : (fills W.length fun j => [if j < k + 1 then upf xs k nx j else AVal.nils]) = fills W.length fun j => if j = k then [nx] else [if j < k then xs j else .nils] := fills_congr fun j _ => by
          unfold upf
          by_cases e : j = k
          · subst e; simp
          · rw [if_neg e, if_neg e]
            by_cases e2 : j < k
            · rw [if_pos e2, if_pos (by omega)]
            · rw [if_neg e2, if_neg (by omega)]
        rw [e]; exact o7
      · have hkW : k = W.length := by omega
        subst hkW
        have o8 := o.perm (l' := [.sl 1 hv (fills W.length fun j => [if j < W.length then xs j else .nils]) []] ++ (HasO W.length L.length xs (fun _ _ => 0) ++ [.sl 1 lf (ints L.length fun k => (lAt L k).Qty) []])) (by
          rw [show HasO W.length L.length xs (fun _ _ => 0) ++ [Ob.sl 1 lf (ints L.length fun k => (lAt L k).Qty) [], .sl 1 hv (fills W.length fun j => [if j < W.length then xs j else .nils]) []] = (HasO W.length L.length xs (fun _ _ => 0) ++ [.sl 1 lf (ints L.length fun k => (lAt L k).Qty) []]) ++ [.sl 1 hv (fills W.length fun j => [if j < W.length then xs j else .nils]) []] by simp]
          exact List.perm_append_comm)
        obtain ⟨oa, ob⟩ := o8.out
        have hhv := oa.slAt 0 rfl
        rw [fills_congr (g := fun j => [xs j]) fun j hj => by rw [if_pos hj]] at hhv
        refine any_all s2 (hx.mono oa.le) (hy.mono oa.le) hhv hm (has := fun _ _ => 0) (left := fun k => (lAt L k).Qty) ⟨fun _ _ => Int.le_refl _, fun k => ?_, fun k hk => ?_, fun w hw => ?_, fun w hw k hk h => ?_⟩ ob fun h' hle => dn_le (AHeap.le_trans oa.le hle) hq
        · by_cases hk : k < L.length
          · have := lotRight_facts (f3 _ (lAt_mem hk)); omega
          · simp [lAt, show L.length ≤ k by omega]
        · rw [sumF_zero fun _ _ => rfl]; omega
        · rw [sumF_zero fun _ _ => rfl]; omega
        · omega
def law05_FlowAny.Spec (C : CSem) (N : Nat → Nat) : Prop := ∀ (x y : AVal) (L : List Lot) (W : List Want) (R S : List (List AVal)) (h : AHeap) (Q : AVal → AHeap → Prop), SlX h 6 x (L.map Lot.cs) R → SlX h 3 y (W.map Want.cs) S →
  L.length < 4611686018427387904 → W.length < 4611686018427387904 → Q (.bool true) h → C (N 217) [x, y] h Q
theorem law05_FlowAny.spec (i : law05_FlowAny.Imp C N) (s1 : law05_awake.Spec C N) (s2 : law05_small.Spec C N) (s3 : flow_Fits.Spec C N) (s4 : ref05_Any.Spec C N) : law05_FlowAny.Spec C N := by
  intro x y L W R S h Q hx hy hlen hlen2 hq
  apply i
  simp -dsimp only [law05_FlowAny.cps, law05_FlowAny.k1]
  refine s1 _ _ ?_
  simp -dsimp only [V.un_not, Bool.not_true, B.cond_false, B.pv_some]
  refine s2 _ _ _ _ _ _ _ _ hx hy ?_
  simp -dsimp only [V.un_not, B.pv_some]
  refine B.cond_bool (fun hb => dn_same hq) (fun hb => ?_)
  refine s3 _ _ L W _ _ _ _ hx hy hlen hlen2 ?_
  refine s4 _ _ L W _ _ _ _ hx hy hlen hlen2 ?_
  have en : V.eqBool .eql (.bool (greedy L W).isSome) (.bool (greedy L W).isSome) = some (.bool true) := by cases (greedy L W).isSome <;> rfl
  simp -dsimp only [en, B.pv_some]
  exact dn_same hq
end Go.Ab

/- What is proved: arguments: lists of wants, of uses. No conditions. -/
set_option linter.unusedVariables false
namespace Go.Ab
theorem dWants {H : AHeap} {v : AVal} (h : AbsOk H (.sl 32 3 tyWant) [v]) : ∃ L : List Want, SlIs H 3 v (L.map Want.cs) ∧ L.length < 4611686018427387904 := by
  obtain ⟨L, h1, h2⟩ := arg_slice Want.cs (fun p hp => dWant hp) h
  exact ⟨L, h1, by unfold reach at h2; omega⟩
end Go.Ab
