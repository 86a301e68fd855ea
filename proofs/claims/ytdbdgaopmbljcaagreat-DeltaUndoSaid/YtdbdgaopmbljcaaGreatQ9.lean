/- What is proved: a part of the way to the statement; each part is headed by what it proves. No conditions. -/
import Derived.Test.YtdbdgaopmbljcaaGreatQ8
import Derived.Test.YtdbdgaopmbljcaaGreatQ3
import Derived.Test.YtdbdgaopmbljcaaGreatQ6

/- What is proved: maps of one's own, by typed entries: what is looked up, put, taken out. No conditions. -/
set_option linter.unusedVariables false
set_option linter.unusedSimpArgs false
namespace Go.Ab
/-! Entries by their keys. -/
abbrev Ents (K T : Type) := List (K × T × Nat)
def keysP {K T : Type} (ps : Ents K T) : List K := ps.map (·.1)
theorem keysP_cons {K T : Type} (p : K × T × Nat) (r : Ents K T) : keysP (p :: r) = p.1 :: keysP r := rfl
section
variable {K T : Type} [DecidableEq K]
def getP : Ents K T → K → Option T
  | [], _ => none
  | p :: r, k => if p.1 = k then some p.2.1 else getP r k
def putP : Ents K T → K → T → Nat → Ents K T
  | [], k, t, c => [(k, t, c)]
  | p :: r, k, t, c => if p.1 = k then (k, t, p.2.2) :: r else p :: putP r k t c
def delP : Ents K T → K → Ents K T
  | [], _ => []
  | p :: r, k => if p.1 = k then r else p :: delP r k
def clkP (ps : Ents K T) (k : K) (c : Nat) : Nat := if (getP ps k).isSome then c else c + 1
/-- Where a key stands. -/
def idxP : Ents K T → K → Option (Nat × T × Nat)
  | [], _ => none
  | p :: r, k => if p.1 = k then some (0, p.2.1, p.2.2) else (idxP r k).map fun (i, q) => (i + 1, q)
theorem getP_put (k k' : K) (t : T) (c : Nat) : ∀ ps : Ents K T, getP (putP ps k t c) k' = if k' = k then some t else getP ps k'
  | [] => by
    simp only [putP, getP]
    by_cases h : k' = k
    · rw [if_pos h.symm, if_pos h]
    · rw [if_neg (Ne.symm h), if_neg h]
  | p :: r => by
    have ih := getP_put k k' t c r
    simp only [putP]
    by_cases hp : p.1 = k
    · rw [if_pos hp]
      simp only [getP]
      by_cases h : k' = k
      · rw [if_pos h.symm, if_pos h]
      · rw [if_neg (Ne.symm h), if_neg h, if_neg (by rw [hp]; exact Ne.symm h)]
    · rw [if_neg hp]
      simp only [getP, ih]
      by_cases h : k' = k
      · subst h; rw [if_neg hp, if_pos rfl, if_pos rfl]
      · rw [if_neg h, if_neg h]
theorem getP_none {k : K} : ∀ {ps : Ents K T}, getP ps k = none ↔ k ∉ keysP ps
  | [] => by simp [getP, keysP]
  | p :: r => by
    have ih := getP_none (k := k) (ps := r)
    simp only [getP, keysP, List.map_cons, List.mem_cons, not_or] at ih ⊢
    by_cases hp : p.1 = k
    · simp [hp]
    · simp [hp, ih, Ne.symm hp]
theorem idxP_get (k : K) : ∀ ps : Ents K T, getP ps k = (idxP ps k).map (·.2.1)
  | [] => rfl
  | p :: r => by
    simp only [getP, idxP]
    split
    · rfl
    · rw [idxP_get k r]; cases idxP r k <;> rfl
theorem idxP_put {k : K} {t : T} {c i : Nat} {q : T × Nat} : ∀ {ps : Ents K T}, idxP ps k = some (i, q) → putP ps k t c = ps.set i (k, t, q.2) ∧ i < ps.length
  | [], h => by simp [idxP] at h
  | p :: r, h => by
    simp only [idxP] at h
    by_cases hp : p.1 = k
    · rw [if_pos hp] at h
      simp only [Option.some.injEq, Prod.mk.injEq] at h
      obtain ⟨rfl, rfl⟩ := h
      simp [putP, hp]
    · rw [if_neg hp] at h
      cases hr : idxP r k with
      | none => simp [hr] at h
      | some x =>
        obtain ⟨j, q'⟩ := x
        simp [hr] at h
        obtain ⟨rfl, rfl⟩ := h
        have := idxP_put (t := t) (c := c) hr
        simp [putP, hp, this.1, this.2]
theorem idxP_del {k : K} {i : Nat} {q : T × Nat} : ∀ {ps : Ents K T}, idxP ps k = some (i, q) → delP ps k = ps.eraseIdx i
  | [], h => by simp [idxP] at h
  | p :: r, h => by
    simp only [idxP] at h
    by_cases hp : p.1 = k
    · rw [if_pos hp] at h
      simp only [Option.some.injEq, Prod.mk.injEq] at h
      obtain ⟨rfl, rfl⟩ := h
      simp [delP, hp]
    · rw [if_neg hp] at h
      cases hr : idxP r k with
      | none => simp [hr] at h
      | some x =>
        obtain ⟨j, q'⟩ := x
        simp [hr] at h
        obtain ⟨rfl, rfl⟩ := h
        simp [delP, hp, idxP_del hr]
theorem idxP_put_none {k : K} {t : T} {c : Nat} : ∀ {ps : Ents K T}, idxP ps k = none → putP ps k t c = ps ++ [(k, t, c)]
  | [], _ => rfl
  | p :: r, h => by
    simp only [idxP] at h
    by_cases hp : p.1 = k
    · rw [if_pos hp] at h; cases h
    · rw [if_neg hp] at h
      cases hr : idxP r k with
      | none => simp [putP, hp, idxP_put_none hr]
      | some x => simp [hr] at h
theorem idxP_del_none {k : K} : ∀ {ps : Ents K T}, idxP ps k = none → delP ps k = ps
  | [], _ => rfl
  | p :: r, h => by
    simp only [idxP] at h
    by_cases hp : p.1 = k
    · rw [if_pos hp] at h; cases h
    · rw [if_neg hp] at h
      cases hr : idxP r k with
      | none => simp [delP, hp, idxP_del_none hr]
      | some x => simp [hr] at h
theorem keysP_put (k : K) (t : T) (c : Nat) : ∀ ps : Ents K T, keysP (putP ps k t c) = if k ∈ keysP ps then keysP ps else keysP ps ++ [k]
  | [] => by simp [putP, keysP]
  | p :: r => by
    have ih := keysP_put k t c r
    by_cases hp : p.1 = k
    · rw [putP, if_pos hp, keysP_cons, keysP_cons, if_pos (by simp [hp]), hp]
    · rw [putP, if_neg hp, keysP_cons, ih, keysP_cons]
      by_cases hm : k ∈ keysP r
      · rw [if_pos hm, if_pos (by simp [hm])]
      · rw [if_neg hm, if_neg (by simp [hm, Ne.symm hp])]; rfl
theorem nodup_put {ps : Ents K T} (h : (keysP ps).Nodup) (k : K) (t : T) (c : Nat) : (keysP (putP ps k t c)).Nodup := by
  rw [keysP_put]
  split
  · exact h
  · rename_i hk
    rw [List.nodup_append]
    exact ⟨h, List.pairwise_singleton _ _, fun a ha b hb e => hk (by rw [List.mem_singleton.1 hb] at e; rw [← e]; exact ha)⟩
theorem keysP_del (k : K) : ∀ {ps : Ents K T}, keysP (delP ps k) = (keysP ps).erase k
  | [] => rfl
  | p :: r => by
    have ih := keysP_del k (ps := r)
    simp only [delP, keysP] at ih ⊢
    by_cases hp : p.1 = k
    · simp [hp]
    · simp [hp, ih, List.erase_cons]
theorem nodup_del {ps : Ents K T} (h : (keysP ps).Nodup) (k : K) : (keysP (delP ps k)).Nodup := by
  rw [keysP_del]; exact h.sublist (List.erase_sublist)
theorem getP_del (k k' : K) : ∀ {ps : Ents K T}, (keysP ps).Nodup → getP (delP ps k) k' = if k' = k then none else getP ps k'
  | [], _ => by simp [delP, getP]
  | p :: r, hn => by
    simp only [keysP, List.map_cons, List.nodup_cons] at hn
    have ih := getP_del k k' (ps := r) hn.2
    simp only [delP]
    by_cases hp : p.1 = k
    · rw [if_pos hp]
      by_cases h : k' = k
      · subst h
        rw [if_pos rfl, getP_none]
        rw [← hp]; exact hn.1
      · rw [if_neg h]; simp only [getP]; rw [if_neg (by rw [hp]; exact Ne.symm h)]
    · rw [if_neg hp]
      simp only [getP, ih]
      by_cases h : k' = k
      · subst h; rw [if_neg hp, if_pos rfl, if_pos rfl]
      · rw [if_neg h, if_neg h]
theorem getP_mem {k : K} {t : T} : ∀ {ps : Ents K T}, getP ps k = some t → ∃ n, (k, t, n) ∈ ps
  | [], h => by simp [getP] at h
  | p :: r, h => by
    simp only [getP] at h
    by_cases hp : p.1 = k
    · rw [if_pos hp] at h
      cases h
      exact ⟨p.2.2, by rw [← hp]; simp⟩
    · rw [if_neg hp] at h
      obtain ⟨n, hn⟩ := getP_mem h
      exact ⟨n, by simp [hn]⟩
theorem mem_getP {ps : Ents K T} (hn : (keysP ps).Nodup) {p : K × T × Nat} (hp : p ∈ ps) : getP ps p.1 = some p.2.1 := by
  induction ps with
  | nil => cases hp
  | cons q r ih =>
    simp only [keysP, List.map_cons, List.nodup_cons] at hn
    simp only [getP]
    rcases List.mem_cons.1 hp with rfl | hp
    · rw [if_pos rfl]
    · rw [if_neg, ih hn.2 hp]
      intro e
      exact hn.1 (by rw [e]; exact List.mem_map_of_mem hp)
end

/-- How keys stand in the memory. -/
structure KeyE (kd : KD) {K : Type} [DecidableEq K] (κ : K → AVal) : Prop where
  same : ∀ a b, V.sameK kd (κ a) (κ b) = some (decide (a = b))
theorem keyS : KeyE .s (fun s : List UInt8 => .str s) := ⟨fun a b => by
  simp only [V.sameK]; congr 1; rw [Bool.eq_iff_iff, beq_iff_eq, decide_eq_true_eq]⟩
theorem map_eraseIdx {α β : Type} (f : α → β) : ∀ (l : List α) (i : Nat), (l.map f).eraseIdx i = (l.eraseIdx i).map f
  | [], _ => rfl
  | _ :: _, 0 => rfl
  | a :: l, i + 1 => by simp [map_eraseIdx f l i]
/-- Entries in the memory. -/
def encM {K T : Type} (κ : K → AVal) (v : T → AVal) (ps : Ents K T) : List (AVal × AVal × Nat) := ps.map fun p => (κ p.1, v p.2.1, p.2.2)
section
variable {kd : KD} {K T : Type} [DecidableEq K] {κ : K → AVal} {v : T → AVal}
theorem findK_enc (hκ : KeyE kd κ) (k : K) : ∀ (ps : Ents K T) (i : Nat), V.findK kd (κ k) (encM κ v ps) i = some ((idxP ps k).map fun (j, q) => (i + j, v q.1, q.2))
  | [], i => rfl
  | p :: r, i => by
    simp only [encM, List.map_cons, V.findK, hκ.same, idxP]
    by_cases hp : k = p.1
    · rw [if_pos hp.symm]; simp [hp]
    · rw [if_neg (Ne.symm hp)]
      have ih := findK_enc hκ k r (i + 1)
      simp only [encM] at ih
      simp only [hp, decide_false, ih]
      cases idxP r k with
      | none => rfl
      | some x => obtain ⟨j, q⟩ := x; simp only [Option.map_some]; congr 3; omega
theorem fset_enc (hκ : KeyE kd κ) (k : K) (t : T) (ps : Ents K T) (c : Nat) : A.fset (some kd) (κ k) (v t) (encM κ v ps) c = some (encM κ v (putP ps k t c), clkP ps k c, .undef) := by
  simp only [A.fset, findK_enc hκ, clkP, idxP_get]
  cases h : idxP ps k with
  | none => simp [idxP_put_none h, encM]
  | some x =>
    obtain ⟨j, q⟩ := x
    have := idxP_put (t := t) (c := c) h
    simp only [Option.map_some, Option.isSome_some, if_true, Nat.zero_add, this.1, encM, List.map_set]
theorem fdel_enc (hκ : KeyE kd κ) (k : K) (ps : Ents K T) (c : Nat) : A.fdel (some kd) (κ k) (encM κ v ps) c = some (encM κ v (delP ps k), c, .tup []) := by
  simp only [A.fdel, findK_enc hκ]
  cases h : idxP ps k with
  | none => simp [idxP_del_none h]
  | some x =>
    obtain ⟨j, q⟩ := x
    have := idxP_del h
    simp only [Option.map_some, Nat.zero_add, this, encM]
    rw [map_eraseIdx]
end

/-- A map of one's own. -/
def mapBlk (es : List (AVal × AVal × Nat)) (c : Nat) : Blk := objOf (.map es c)
theorem Owns.newBlk {h0 h : AHeap} {l : List Ob} (ho : Owns h0 h l) {id : Nat} (hid : h id = none) {b : Blk} (hb : b.own = true) : Owns h0 (upd h id b) (l ++ [.blk id b]) :=
  ho.join ⟨le_upd _ hid, fun o hm => by rw [List.mem_singleton.1 hm]; exact upd_same .., fun o hm j hj => by rw [List.mem_singleton.1 hm] at hj; cases hj; exact ⟨hid, fun b hb' => by rw [upd_same] at hb'; cases hb'; exact hb⟩, List.pairwise_singleton _ _⟩
theorem Owns.newMap {h0 h : AHeap} {l : List Ob} {K T : Type} (ho : Owns h0 h l) (κ : K → AVal) (v : T → AVal) {Q : AVal → AHeap → Prop} (hq : ∀ id h', h id = none → Owns h0 h' (l ++ [.blk id (mapBlk (encM κ v []) 0)]) → h.le h' → Q (.mp id) h') : B.newMap h Q :=
  fun id hid => hq id _ hid (ho.newBlk hid rfl) (le_upd _ hid)
section
variable {h0 h : AHeap} {l : List Ob} {kd : KD} {K T : Type} [DecidableEq K] {κ : K → AVal} {v : T → AVal}
theorem Owns.setBlk (ho : Owns h0 h l) (k : Nat) {id : Nat} {b b' : Blk} (hk : l[k]? = some (.blk id b)) (hb : b'.own = true) : Owns h0 (upd h id b') (l.set k (.blk id b')) :=
  ho.turn k hk (upd_same ..) (fun j c hj hc => by cases hj; rw [upd_same] at hc; cases hc; exact hb) (fun j c e1 e2 => by rw [upd_other]; exact e1; intro e; subst e; exact e2 rfl) (.inl rfl)
theorem mapAt_blk {id : Nat} {es : List (AVal × AVal × Nat)} {c : Nat} (hb : h id = some (mapBlk es c)) : A.mapAt h (.mp id) = some (es, c) := by simp [A.mapAt, hb, mapBlk, objOf]
theorem objT_blk {id : Nat} {es es' : List (AVal × AVal × Nat)} {c c' : Nat} {u : AVal} {f : List (AVal × AVal × Nat) → Nat → Option (List (AVal × AVal × Nat) × Nat × AVal)} {Q : AVal → AHeap → Prop} (hb : h id = some (mapBlk es c)) (hf : f es c = some (es', c', u))
    (hq : Q u (upd h id (mapBlk es' c'))) : A.objT h (.mp id) f Q := by
  unfold mapBlk objOf at *
  simp only [A.objT, hb, hf]
  exact hq
theorem lkp_blk {id : Nat} {c : Nat} {ps : Ents K T} (hκ : KeyE kd κ) (hb : h id = some (mapBlk (encM κ v ps) c)) (z : T) (k : K) (ok : Bool) :
    A.lkp h (some kd) (some (v z)) ok (.mp id) (κ k) = some (bif ok then .tup [v ((getP ps k).getD z), .bool (getP ps k).isSome] else v ((getP ps k).getD z)) := by
  simp only [A.lkp, A.entries, mapAt_blk hb, findK_enc hκ, idxP_get]
  cases idxP ps k with
  | none => rfl
  | some x => rfl
theorem Owns.lkp (ho : Owns h0 h l) (i : Nat) {id c : Nat} {ps : Ents K T} (hi : l[i]? = some (.blk id (mapBlk (encM κ v ps) c))) (hκ : KeyE kd κ) (z : T) (k : K) : A.lkp h (some kd) (some (v z)) false (.mp id) (κ k) = some (v ((getP ps k).getD z)) :=
  lkp_blk hκ (ho.at i hi) z k false
theorem Owns.mset (ho : Owns h0 h l) (i : Nat) {id c : Nat} {ps : Ents K T} (hi : l[i]? = some (.blk id (mapBlk (encM κ v ps) c))) (hκ : KeyE kd κ) (k : K) (t : T) {Q : AHeap → Prop}
    (hq : ∀ h', Owns h0 h' (l.set i (.blk id (mapBlk (encM κ v (putP ps k t c)) (clkP ps k c)))) → But (.mp id) h h' → (∀ j, j ≠ id → h' j = h j) → Q h') : B.mset h kd (.mp id) (κ k) (v t) Q :=
  objT_blk (ho.at i hi) (fset_enc hκ k t ps c) (hq _ (ho.setBlk i hi rfl) (fun j b e1 e2 => by rw [upd_other]; exact e1; intro e; subst e; exact e2 rfl) fun j hj => upd_other _ _ hj)
end
end Go.Ab

/- What is proved: ranges over maps of one's own. No conditions. -/
set_option linter.unusedVariables false
set_option linter.unusedSimpArgs false
namespace Go.Ab
/-- The births of entries: all ahead of the clock, no two alike. -/
def Births {K T : Type} (ps : Ents K T) (c : Nat) : Prop := (∀ p ∈ ps, p.2.2 < c) ∧ (ps.map (·.2.2)).Nodup
section
variable {K T : Type} {ps D : Ents K T} {c : Nat}
theorem Births.nil (c : Nat) : Births ([] : Ents K T) c := ⟨fun _ h => (by cases h), List.Pairwise.nil⟩
theorem Births.put [DecidableEq K] (hb : Births ps c) (k : K) (t : T) : Births (putP ps k t c) (clkP ps k c) := by
  unfold clkP
  rw [idxP_get]
  cases h : idxP ps k with
  | none =>
    rw [idxP_put_none h]
    simp only [Option.map_none, Option.isSome_none, Bool.false_eq_true, if_false]
    refine ⟨fun p hp => ?_, ?_⟩
    · rcases List.mem_append.1 hp with hp | hp
      · have := hb.1 p hp; omega
      · rw [List.mem_singleton.1 hp]; exact Nat.lt_succ_self _
    · rw [List.map_append, List.nodup_append]
      refine ⟨hb.2, List.pairwise_singleton _ _, fun a ha b hb2 => ?_⟩
      obtain ⟨p, hp, rfl⟩ := List.mem_map.1 ha
      rw [List.map_singleton, List.mem_singleton] at hb2
      have := hb.1 p hp
      subst hb2
      exact Nat.ne_of_lt this
  | some x =>
    obtain ⟨j, q⟩ := x
    have he := idxP_put (t := t) (c := c) h
    simp only [Option.map_some, Option.isSome_some, if_true, he.1]
    have hq : (ps.map (·.2.2))[j]? = some q.2 := by
      have : ∀ (ps : Ents K T) (j : Nat) (q : T × Nat), idxP ps k = some (j, q) → (ps.map (·.2.2))[j]? = some q.2 := by
        intro ps
        induction ps with
        | nil => intro j q h; cases h
        | cons p r ih =>
          intro j q h
          simp only [idxP] at h
          split at h
          · cases h; rfl
          · cases e : idxP r k with
            | none => rw [e] at h; cases h
            | some y =>
              obtain ⟨j', q'⟩ := y
              rw [e] at h
              simp only [Option.map_some, Option.some.injEq, Prod.mk.injEq] at h
              obtain ⟨rfl, rfl⟩ := h
              simpa using ih _ _ e
      exact this _ _ _ h
    have hm : (ps.set j (k, t, q.2)).map (·.2.2) = ps.map (·.2.2) := by
      rw [List.map_set]
      apply List.ext_getElem?
      intro i
      rw [List.getElem?_set]
      split
      · rename_i e; subst e
        split
        · exact hq.symm
        · rename_i e2; simp at e2; omega
      · rfl
    refine ⟨fun p hp => ?_, by rw [hm]; exact hb.2⟩
    have : p.2.2 ∈ (ps.set j (k, t, q.2)).map (·.2.2) := List.mem_map.2 ⟨p, hp, rfl⟩
    rw [hm] at this
    obtain ⟨p', hp', e⟩ := List.mem_map.1 this
    rw [← e]; exact hb.1 p' hp'
theorem Births.del [DecidableEq K] (hb : Births ps c) (k : K) : Births (delP ps k) c := by
  cases h : idxP ps k with
  | none => rw [idxP_del_none h]; exact hb
  | some x =>
    obtain ⟨j, q⟩ := x
    rw [idxP_del h]
    have hs := List.eraseIdx_sublist ps j
    exact ⟨fun p hp => hb.1 p (hs.subset hp), (hs.map _).nodup hb.2⟩
theorem Births.inj (hb : Births ps c) {p q : K × T × Nat} (hp : p ∈ ps) (hq : q ∈ ps) (e : p.2.2 = q.2.2) : p = q := by
  obtain ⟨i, hi, rfl⟩ := List.mem_iff_getElem.1 hp
  obtain ⟨j, hj, rfl⟩ := List.mem_iff_getElem.1 hq
  have : i = j := by
    refine (List.getElem_inj (h₀ := by simpa using hi) (h₁ := by simpa using hj) hb.2).1 ?_
    simpa using e
  subst this; rfl
/-- All have been gone through. -/
theorem Births.all (hb : Births ps c) (h1 : ∀ p ∈ D, p ∈ ps) (h2 : (D.map (·.2.2)).Nodup) (h3 : ∀ p ∈ ps, p.2.2 ∈ D.map (·.2.2)) : D.Perm ps := by
  have nd : ∀ {l : Ents K T}, (l.map (·.2.2)).Nodup → l.Nodup := fun h => List.Pairwise.of_map (S := (· ≠ ·)) (fun p : K × T × Nat => p.2.2) (fun a b h e => h (by rw [e])) h
  refine (List.perm_ext_iff_of_nodup (nd h2) (nd hb.2)).2 fun p => ⟨h1 p, fun hp => ?_⟩
  obtain ⟨q, hq, e⟩ := List.mem_map.1 (h3 p hp)
  rwa [hb.inj (h1 q hq) hp e] at hq
end
/-- A range under way. -/
def iterBlk (m since : Nat) (seen : List Nat) (last : Nat) : Blk := objOf (.mapIter (some m) since seen last)
section
variable {h0 h : AHeap} {l : List Ob} {K T : Type} {κ : K → AVal} {v : T → AVal} {ps : Ents K T} {m c : Nat} {Q : AVal → AHeap → Prop}
theorem Owns.rangeMap (ho : Owns h0 h l) (i : Nat) (hi : l[i]? = some (.blk m (mapBlk (encM κ v ps) c))) (hq : ∀ it h', Owns h0 h' (l ++ [.blk it (iterBlk m c [] c)]) → h.le h' → Q (.ptr it 0 0) h') : B.rangeMap h (.mp m) Q := by
  have hb : h m = some (mapBlk (encM κ v ps) c) := ho.at i hi
  show A.rangeMap h (.mp m) Q
  simp only [A.rangeMap, mapAt_blk hb]
  exact fun it hit => hq it _ (ho.newBlk hit rfl) (le_upd _ hit)
theorem Owns.nextMap (ho : Owns h0 h l) (i j : Nat) {it since last : Nat} {seen : List Nat} (hi : l[i]? = some (.blk m (mapBlk (encM κ v ps) c))) (hj : l[j]? = some (.blk it (iterBlk m since seen last))) (hb : Births ps c) (hs : c ≤ since) (hsl : since ≤ last)
    (hdone : (∀ p ∈ ps, p.2.2 ∈ seen) → Q (.tup [.bool false]) h)
    (hstep : ∀ p ∈ ps, p.2.2 ∉ seen → ∀ h', Owns h0 h' (l.set j (.blk it (iterBlk m since (seen ++ [p.2.2]) c))) → (∀ k, k ≠ it → h' k = h k) → A.entryAt h' (.ptr it 0 0) = some (.tup [κ p.1, v p.2.1]) → Q (.tup [.bool true, κ p.1, v p.2.1]) h') :
    B.nextMap h (.ptr it 0 0) Q := by
  have hbm : h m = some (mapBlk (encM κ v ps) c) := ho.at i hi
  have hbi : h it = some (iterBlk m since seen last) := ho.at j hj
  have hne : m ≠ it := fun e => by
    subst e
    rw [hbm] at hbi
    have := Option.some.inj hbi
    unfold mapBlk iterBlk objOf at this
    cases this
  show A.nextMap h (.ptr it 0 0) Q
  have hall : ((encM κ v ps).all fun e => Nat.blt e.2.2 since) = true := by
    rw [List.all_eq_true]
    intro e he
    obtain ⟨p, hp, rfl⟩ := List.mem_map.1 he
    have := hb.1 p hp
    rw [Nat.blt_eq]; show p.2.2 < since; omega
  have hle : Nat.ble since last = true := by rw [Nat.ble_eq]; exact hsl
  have hst : A.steps h (.ptr it 0 0) = some (it, match (encM κ v ps).filter (fun e => !seen.contains e.2.2) with
      | [] => [(iterBlk m since seen last, .tup [.bool false])]
      | l => l.map fun e => ({ iterBlk m since seen last with obj := some (.mapIter (some m) since (seen ++ [e.2.2]) c) }, .tup [.bool true, e.1, e.2.1])) := by
    simp only [A.steps, hbi]
    unfold iterBlk objOf
    simp only [mapAt_blk hbm, hall, hle, Bool.and_self, cond_true]
    rfl
  simp only [A.nextMap, hst]
  intro p hp
  have hf : ∀ e, e ∈ (encM κ v ps).filter (fun e => !seen.contains e.2.2) ↔ ∃ q ∈ ps, q.2.2 ∉ seen ∧ e = (κ q.1, v q.2.1, q.2.2) := fun e => by
    rw [List.mem_filter]
    constructor
    · rintro ⟨he, hc⟩
      obtain ⟨q, hq, rfl⟩ := List.mem_map.1 he
      refine ⟨q, hq, ?_, rfl⟩
      simpa using hc
    · rintro ⟨q, hq, hn, rfl⟩
      exact ⟨List.mem_map.2 ⟨q, hq, rfl⟩, by simpa using hn⟩
  cases hfl : (encM κ v ps).filter (fun e => !seen.contains e.2.2) with
  | nil =>
    rw [hfl] at hp
    rw [List.mem_singleton.1 hp]
    have : upd h it (iterBlk m since seen last) = h := upd_self hbi
    rw [this]
    refine hdone fun q hq => ?_
    by_cases hn : q.2.2 ∈ seen
    · exact hn
    · have := (hf _).2 ⟨q, hq, hn, rfl⟩
      rw [hfl] at this; cases this
  | cons e0 es0 =>
    rw [hfl] at hp
    obtain ⟨e, he, rfl⟩ := List.mem_map.1 hp
    rw [← hfl] at he
    obtain ⟨q, hq, hn, rfl⟩ := (hf _).1 he
    have hblk : ({ iterBlk m since seen last with obj := some (.mapIter (some m) since (seen ++ [q.2.2]) c) } : Blk) = iterBlk m since (seen ++ [q.2.2]) c := rfl
    show Q _ (upd h it { iterBlk m since seen last with obj := some (.mapIter (some m) since (seen ++ [q.2.2]) c) })
    rw [hblk]
    refine hstep q hq hn _ (ho.setBlk j hj rfl) (fun k hk => upd_other _ _ hk) ?_
    have hbm' : upd h it (iterBlk m since (seen ++ [q.2.2]) c) m = some (mapBlk (encM κ v ps) c) := by rw [upd_other _ _ hne]; exact hbm
    have hfind : (encM κ v ps).find? (fun e => Nat.beq e.2.2 q.2.2) = some (κ q.1, v q.2.1, q.2.2) := by
      have key : ∀ (ps : Ents K T), (ps.map (·.2.2)).Nodup → q ∈ ps → (encM κ v ps).find? (fun e => Nat.beq e.2.2 q.2.2) = some (κ q.1, v q.2.1, q.2.2) := by
        intro ps
        induction ps with
        | nil => intro _ h; cases h
        | cons a r ih =>
          intro hnd hm
          simp only [List.map_cons, List.nodup_cons] at hnd
          simp only [encM, List.map_cons, List.find?_cons]
          rcases List.mem_cons.1 hm with rfl | hm
          · simp [Nat.beq_refl]
          · have hne : a.2.2 ≠ q.2.2 := fun e => hnd.1 (by rw [e]; exact List.mem_map.2 ⟨q, hm, rfl⟩)
            have : Nat.beq a.2.2 q.2.2 = false := by
              cases e : Nat.beq a.2.2 q.2.2 with
              | false => rfl
              | true => exact absurd (Nat.eq_of_beq_eq_true e) hne
            rw [this]
            exact ih hnd.2 hm
      exact key ps hb.2 hq
    simp only [A.entryAt, upd_get]
    unfold iterBlk objOf
    have hbm'' := hbm'
    unfold iterBlk objOf at hbm''
    simp only [mapAt_blk hbm'', List.getLast?_append, List.getLast?_singleton, Option.some_or, Nat.beq_refl, cond_true, hfind]
end
end Go.Ab

/- What is proved: contracts: rows are turned by a map of one's own. No conditions. -/
set_option linter.unusedVariables false
set_option linter.unusedSimpArgs false
namespace Go.Ab
variable {C : CSem} {N : Nat → Nat}
abbrev kB : List UInt8 → AVal := fun s => .str s
abbrev vB : List UInt8 × AVal → AVal := fun p => p.2
abbrev MEnt := Ents (List UInt8) (List UInt8 × AVal)
def tabP (ps : MEnt) (k : List UInt8) : List UInt8 := ((getP ps k).map (·.1)).getD []
/-- A map that tells a table. -/
structure MapT (h : AHeap) (ps : MEnt) (c : Nat) (f : Tab) : Prop where
  births : Births ps c
  nodup : (keysP ps).Nodup
  tab : ∀ k, tabP ps k = f k
  ent : ∀ e ∈ ps, e.1.length ≤ far ∧ e.1 ≠ [] ∧ e.2.1.1 ≠ [] ∧ Bs h e.2.1.2 e.2.1.1
section
variable {h : AHeap} {ps : MEnt} {c : Nat} {f g : Tab}
theorem MapT.congr (m : MapT h ps c f) (e : ∀ k, f k = g k) : MapT h ps c g := ⟨m.births, m.nodup, fun k => (m.tab k).trans (e k), m.ent⟩
theorem MapT.empty (h : AHeap) (c : Nat) : MapT h [] c fun _ => [] := ⟨Births.nil c, List.Pairwise.nil, fun _ => rfl, fun _ h => by cases h⟩
theorem MapT.look (m : MapT h ps c f) (k : List UInt8) : Bs h ((getP ps k).getD ([], .nils)).2 (f k) := by
  rw [← m.tab k]
  unfold tabP
  cases e : getP ps k with
  | none => exact Bs.nils h
  | some q =>
    obtain ⟨n, hn⟩ := getP_mem e
    exact (m.ent _ hn).2.2.2
theorem mem_putP {k : List UInt8} {t : List UInt8 × AVal} (hn : (keysP ps).Nodup) {e : List UInt8 × (List UInt8 × AVal) × Nat} (he : e ∈ putP ps k t c) : (e.1 = k ∧ e.2.1 = t) ∨ (e.1 ≠ k ∧ ∃ n, (e.1, e.2.1, n) ∈ ps) := by
  have h1 := mem_getP (nodup_put hn k t c) he
  rw [getP_put] at h1
  by_cases h : e.1 = k
  · rw [if_pos h] at h1; exact .inl ⟨h, (Option.some.inj h1).symm⟩
  · rw [if_neg h] at h1; exact .inr ⟨h, getP_mem h1⟩
theorem MapT.put (m : MapT h ps c f) {k v : List UInt8} {x : AVal} (hk : k.length ≤ far) (hk0 : k ≠ []) (hv : v ≠ []) (hx : Bs h x v) : MapT h (putP ps k (v, x) c) (clkP ps k c) (fun k' => if k' = k then v else f k') := by
  refine ⟨m.births.put k _, nodup_put m.nodup k _ c, fun k' => ?_, fun e he => ?_⟩
  · unfold tabP
    rw [getP_put]
    split
    · rfl
    · exact m.tab k'
  · rcases mem_putP m.nodup he with ⟨e1, e2⟩ | ⟨_, n, hn⟩
    · rw [e1, e2]; exact ⟨hk, hk0, hv, hx⟩
    · exact m.ent (e.1, e.2.1, n) hn
theorem MapT.del (m : MapT h ps c f) {k : List UInt8} {t : List UInt8 × AVal} : MapT h (delP (putP ps k t c) k) (clkP ps k c) (fun k' => if k' = k then [] else f k') := by
  have nd := nodup_put m.nodup k t c
  refine ⟨(m.births.put k _).del k, nodup_del nd k, fun k' => ?_, fun e he => ?_⟩
  · unfold tabP
    rw [getP_del k k' nd, getP_put]
    split
    · rfl
    · exact m.tab k'
  · have h1 := mem_getP (nodup_del nd k) he
    rw [getP_del k _ nd, getP_put] at h1
    split at h1
    · cases h1
    · obtain ⟨n, hn⟩ := getP_mem h1
      exact m.ent (e.1, e.2.1, n) hn
end
theorem Owns.mdel {h0 h : AHeap} {l : List Ob} {kd : KD} {K T : Type} [DecidableEq K] {κ : K → AVal} {v : T → AVal} (ho : Owns h0 h l) (i : Nat) {id c : Nat} {ps : Ents K T} (hi : l[i]? = some (.blk id (mapBlk (encM κ v ps) c))) (hκ : KeyE kd κ) (k : K) {Q : AVal → AHeap → Prop}
    (hq : ∀ h', Owns h0 h' (l.set i (.blk id (mapBlk (encM κ v (delP ps k)) c))) → (∀ j, j ≠ id → h' j = h j) → Q (.tup []) h') : B.mdel h kd (.mp id) (κ k) Q :=
  objT_blk (ho.at i hi) (fdel_enc hκ k ps c) (hq _ (ho.setBlk i hi rfl) fun j hj => upd_other _ _ hj)
theorem getR_snoc {l : List Row} {r : Row} (h : ∀ s ∈ l, s.Key ≠ r.Key) (k : List UInt8) : getR (l ++ [r]) k = if k = r.Key then r.Value else getR l k := by
  induction l with
  | nil => rw [List.nil_append, getR_cons]
  | cons s l ih =>
    rw [List.cons_append, getR_cons, getR_cons, ih fun t ht => h t (List.mem_cons_of_mem _ ht)]
    have := h s (by simp)
    by_cases e : k = s.Key
    · subst e; simp [this]
    · simp [e]

/-- The rows are laid into the map. -/
theorem apply_lay {x : AVal} {L : List Row} {h hh : AHeap} {m : Nat} {y : AVal} {Q : AVal → AHeap → Prop} (hx : Dl rowK h x L) (hL : RightL L) (hlen : L.length ≤ 1000000) (ho : Owns h hh [.blk m (mapBlk (encM kB vB ([] : MEnt)) 0)])
    {n2 : Nat} (hy : V.lenSl y = some (.int .i64 (n2 : Int)))
    (hq : ∀ h' ps c, Owns h h' [.blk m (mapBlk (encM kB vB ps) c)] → MapT h ps c (getR L) → LoopR (delta_Apply.l4 C N Q (.mp m) y (.int .i64 (n2 : Int))) [.int .i64 0] h') :
    LoopR (delta_Apply.l6 C N Q y (.mp m) x (.int .i64 (L.length : Int))) [.int .i64 0] hh := by
  refine LoopR.intro (fun n vs hh => ∃ (k : Nat) (ps : MEnt) (c : Nat), k + n = L.length ∧ vs = [.int .i64 (k : Int)] ∧ Owns h hh [.blk m (mapBlk (encM kB vB ps) c)] ∧ MapT h ps c (getR (L.take k))) L.length ?_ ⟨0, [], 0, by simp, rfl, ho, (MapT.empty h 0).congr fun k => by simp [getR]⟩
  rintro Y n vs hh ⟨k, ps, c, hn, rfl, o, mt⟩ hY
  simp -dsimp only [delta_Apply.l6, delta_Apply.k5, V.bin_lss, B.pv_some]
  refine B.cond_bool (fun hc => ?_) (fun hc => ?_)
  · have hk : k < L.length := by simpa using hc
    obtain ⟨r, hr⟩ := get_lt hk
    obtain ⟨kx, vx, e1, e2, e3, e4, e5, e6, b1, b2⟩ := row_get (hx.mono o.le) hr
    obtain ⟨_, vx', _, e2', _, _, _, _, _, b2'⟩ := row_get hx hr
    obtain ⟨R1, s1⟩ := b1.1
    have hvx : vx' = vx := by
      have h1 : A.ldnv hh (elp 2 x k 0) 2 = some (.agg [kx, vx]) := e2
      obtain ⟨a, ea⟩ := hx.get hr
      obtain ⟨P, R, rfl, s, ha⟩ := hx
      rw [List.getElem?_map] at hr
      obtain ⟨p, hp, rfl⟩ := Option.map_eq_some_iff.1 hr
      have q1 := (slX_el s ha hp).ldn
      have q2 := (slX_el (K := rowK) (s.mono o.le) (fun q hq => rowK.mono o.le (ha q hq)) hp).ldn
      have q1 : A.ldnv h (elp 2 x k 0) 2 = some (.agg [p.2.1, p.2.2]) := q1
      have q2 : A.ldnv hh (elp 2 x k 0) 2 = some (.agg [p.2.1, p.2.2]) := q2
      rw [e2'] at q1; rw [h1] at q2
      cases q1; cases q2; rfl
    subst hvx
    have hmem : r ∈ L := List.mem_of_getElem? hr
    simp -dsimp [e1, e2, bytesStr_bc s1, - V.bin_add, add1 (show k < 4611686018427387904 by omega)]
    refine o.mset (κ := kB) (v := vB) 0 rfl keyS r.Key (r.Value, vx') fun h' o' _ _ => ?_
    simp -dsimp [- V.bin_add, add1 (show k < 4611686018427387904 by omega)]
    refine hY (L.length - (k + 1)) _ _ (by omega) ⟨k + 1, _, _, by omega, rfl, o', ?_⟩
    refine (mt.put b1.2 (hL.key r hmem) (hL.val r hmem) b2').congr fun k' => ?_
    rw [take_succ hr, getR_snoc fun s hs e => ?_]
    obtain ⟨j, hj, rfl⟩ := List.mem_iff_getElem.1 hs
    have hjk : j < k := by rw [List.length_take] at hj; omega
    have := List.pairwise_iff_getElem.1 hL.up j k (by omega) hk hjk
    rw [List.getElem_take] at e
    obtain ⟨_, e8⟩ := List.getElem?_eq_some_iff.1 hr
    rw [← e8] at e
    exact lessB_ne this e
  · have hk : k = L.length := by
      have : ¬ (k : Int) < L.length := by simpa using hc
      omega
    rw [hk, List.take_length] at mt
    simp -dsimp only [hy, B.pv_some]
    exact hq hh ps c o mt
/-- The map is turned. -/
theorem apply_turn {y : AVal} {L : List Row} {T : List Turn} {h hh : AHeap} {m : Nat} {Q : AVal → AHeap → Prop} (s3 : bytes_Equal.Spec C N) (hy : Dl turnK h y T) (hlen : T.length ≤ 1000000) {ps : MEnt} {c : Nat} (ho : Owns h hh [.blk m (mapBlk (encM kB vB ps) c)]) (hL : RightL L) (mt : MapT h ps c (getR L))
    (hno : goA L T = none → ∀ h', h.le h' → Q (.tup [.nils, .bool false]) h')
    (hq : ∀ h' ps c out, goA L T = some out → RightL out → Owns h h' [.blk m (mapBlk (encM kB vB ps) c)] → MapT h ps c (getR out) → B.rangeMap h' (.mp m) fun v64 h => LoopR (delta_Apply.l2 C N Q v64) [.nils] h) :
    LoopR (delta_Apply.l4 C N Q (.mp m) y (.int .i64 (T.length : Int))) [.int .i64 0] hh := by
  refine LoopR.intro (fun n vs hh => ∃ (k : Nat) (ps : MEnt) (c : Nat) (out : List Row), k + n = T.length ∧ vs = [.int .i64 (k : Int)] ∧ RightL out ∧ goA L T = goA out (T.drop k) ∧ Owns h hh [.blk m (mapBlk (encM kB vB ps) c)] ∧ MapT h ps c (getR out)) T.length ?_ ⟨0, ps, c, L, by simp, rfl, hL, rfl, ho, mt⟩
  rintro Y n vs hh ⟨k, ps, c, out, hn, rfl, hout, hgo, o, mt⟩ hY
  simp -dsimp only [delta_Apply.l4, delta_Apply.k3, V.bin_lss, B.pv_some]
  refine B.cond_bool (fun hc => ?_) (fun hc => ?_)
  · have hk : k < T.length := by simpa using hc
    obtain ⟨t, ht⟩ := get_lt hk
    have hd : T.drop k = t :: T.drop (k + 1) := by
      obtain ⟨hk, e⟩ := List.getElem?_eq_some_iff.1 ht
      rw [List.drop_eq_getElem_cons hk, e]
    rw [hd, goA] at hgo
    obtain ⟨P, R, rfl, s, ha⟩ := hy
    rw [List.getElem?_map] at ht
    obtain ⟨p, hp, rfl⟩ := Option.map_eq_some_iff.1 ht
    obtain ⟨b1', b2', b3'⟩ : Bs h p.2.1 p.1.Key ∧ Bs h p.2.2.1 p.1.Old ∧ Bs h p.2.2.2 p.1.New := ha p (List.mem_of_getElem? hp)
    have el := slX_el (K := turnK) (s.mono o.le) (fun q hq => turnK.mono o.le (ha q hq)) hp
    have e1 : V.idxS 3 y (.int .i64 (k : Int)) = some (elp 3 y k 0) := el.idx
    have e2 : A.ldnv hh (elp 3 y k 0) 3 = some (.agg [p.2.1, p.2.2.1, p.2.2.2]) := el.ldn
    have b1 := b1'.mono o.le; have b2 := b2'.mono o.le; have b3 := b3'.mono o.le
    obtain ⟨R1, s1⟩ := b1.1
    by_cases hkey : p.1.Key = []
    · rw [if_pos (.inl hkey)] at hgo
      simp -dsimp [e1, e2, bytesStr_bc s1, hkey]
      exact hno hgo hh o.le
    · have hlk : A.lkp hh (some .s) (some .nils) false (.mp m) (.str p.1.Key) = some ((getP ps p.1.Key).getD ([], .nils)).2 := o.lkp (κ := kB) (v := vB) 0 rfl keyS ([], .nils) p.1.Key
      simp -dsimp [e1, e2, bytesStr_bc s1, hkey, hlk]
      refine s3 _ _ _ _ _ _ ((mt.look p.1.Key).mono o.le) b2 ?_
      by_cases hold : getR out p.1.Key = p.1.Old
      · rw [if_neg (by simp [hkey, hold])] at hgo
        simp -dsimp [hkey, hold, - V.bin_add]
        refine o.mset (κ := kB) (v := vB) 0 rfl keyS p.1.Key (p.1.New, p.2.2.2) fun h' o' _ hoth => ?_
        have hout' := putR_right hout (v := p.1.New) hkey
        have hget : ∀ k', (if k' = p.1.Key then p.1.New else getR out k') = getR (putR out p.1.Key p.1.New) k' := fun k' => (putR_get hout hkey k').symm
        by_cases hnew : p.1.New = []
        · have hlen3 := (b3'.mono o'.le).lenSl
          rw [hnew] at hlen3
          simp -dsimp [hlen3, - V.bin_add]
          refine o'.mdel (κ := kB) (v := vB) 0 rfl keyS p.1.Key fun h'' o'' _ => ?_
          simp -dsimp [- V.bin_add, add1 (show k < 4611686018427387904 by omega)]
          refine hY ((P.map (·.1)).length - (k + 1)) _ _ (by omega) ⟨k + 1, _, _, _, by omega, rfl, hout', hgo, o'', ?_⟩
          exact mt.del.congr fun k' => by rw [← hget k', hnew]
        · have hlen3 := (b3'.mono o'.le).lenSl
          have hz : ¬ ((p.1.New.length : Int) = 0) := by
            intro e
            exact hnew (List.eq_nil_of_length_eq_zero (by omega))
          simp -dsimp [hlen3, hz, hnew, - V.bin_add, add1 (show k < 4611686018427387904 by omega)]
          refine hY ((P.map (·.1)).length - (k + 1)) _ _ (by omega) ⟨k + 1, _, _, _, by omega, rfl, hout', hgo, o', ?_⟩
          exact (mt.put b1'.2 hkey hnew b3').congr hget
      · rw [if_pos (.inr hold)] at hgo
        simp -dsimp [hkey, hold]
        exact hno hgo hh o.le
  · have hk : k = T.length := by
      have : ¬ (k : Int) < T.length := by simpa using hc
      omega
    rw [hk, List.drop_length, goA] at hgo
    exact hq hh ps c out hgo hout o mt
abbrev rowOf (e : List UInt8 × (List UInt8 × AVal) × Nat) : Row := ⟨e.1, e.2.1.1⟩
theorem rows_of_map {h : AHeap} {ps D : MEnt} {c : Nat} {out S : List Row} (mt : MapT h ps c (getR out)) (ho : RightL out) (hD : D.Perm ps) (hS : S.Perm (D.map rowOf)) (hs : S.Pairwise fun s t => ¬ cmpB t.Key s.Key < 0) : S = out := by
  have hp : S.Perm (ps.map rowOf) := hS.trans (hD.map rowOf)
  have keys : (S.map (·.Key)).Nodup := by
    have : (S.map (·.Key)).Perm (keysP ps) := by
      have := hp.map (·.Key)
      rwa [List.map_map] at this
    exact this.nodup_iff.2 mt.nodup
  have mem : ∀ r, r ∈ S ↔ ∃ e ∈ ps, rowOf e = r := fun r => by rw [hp.mem_iff, List.mem_map]
  have hr : RightL S := by
    refine ⟨fun r hr => ?_, fun r hr => ?_, ?_⟩
    · obtain ⟨e, he, rfl⟩ := (mem r).1 hr; exact (mt.ent e he).2.1
    · obtain ⟨e, he, rfl⟩ := (mem r).1 hr; exact (mt.ent e he).2.2.1
    · have hk : S.Pairwise fun s t => s.Key ≠ t.Key := by
        have := keys; unfold List.Nodup at this; rwa [List.pairwise_map] at this
      refine (hs.and hk).imp fun {s t} ⟨h1, h2⟩ => ?_
      have : lessB t.Key s.Key = false := by
        cases e : lessB t.Key s.Key with
        | false => rfl
        | true => exact absurd (cmpB_neg.2 e) h1
      exact lessB_or this (Ne.symm h2)
  refine hr.ext ho fun k => ?_
  rw [← mt.tab k]
  unfold tabP
  cases e : getP ps k with
  | none =>
    refine getR_none fun r hr' e2 => ?_
    obtain ⟨q, hq, rfl⟩ := (mem r).1 hr'
    have := mem_getP mt.nodup hq
    have e2 : q.1 = k := e2
    rw [e2, e] at this; cases this
  | some q =>
    obtain ⟨n, hn⟩ := getP_mem e
    exact hr.get (r := rowOf (k, q, n)) ((mem _).2 ⟨_, hn, rfl⟩)
theorem lessB_ntrans {a b c : List UInt8} (h1 : lessB a b = false) (h2 : lessB b c = false) : lessB a c = false := by
  cases e : lessB a c with
  | false => rfl
  | true =>
    by_cases e1 : a = b
    · subst e1; rw [e] at h2; cases h2
    · have := lessB_trans (lessB_or h1 e1) e; rw [this] at h2; cases h2
theorem weakB {X : Type} (k : X → List UInt8) : Weak (lessC fun a b : X => cmpB (k a) (k b)) := by
  have key : ∀ a b : X, lessC (fun a b : X => cmpB (k a) (k b)) a b = lessB (k a) (k b) := fun a b => by
    unfold lessC
    rw [Bool.eq_iff_iff, decide_eq_true_eq]; exact cmpB_neg
  exact ⟨fun {a b} h => by rw [key] at h ⊢; exact lessB_asym h, fun {a b c} h1 h2 => by rw [key] at h1 h2 ⊢; exact lessB_ntrans h1 h2⟩
theorem rowS {X : Type} (f : X → AVal × AVal) : SeqSpec (opsF 2 48 [.nils, .nils] 0 []) (fun p : X => rowK.cells (f p)) (fun p => .agg (rowK.cells (f p))) := seqF (by omega) (by omega) rfl fun _ => rfl
def delta_Apply_1.Spec (C : CSem) (N : Nat → Nat) : Prop := ∀ (r s : Row) (a b : AVal × AVal) (h : AHeap) (Q : AVal → AHeap → Prop), rowK.at_ h r a → rowK.at_ h s b → Q (.int .i64 (cmpB r.Key s.Key)) h → C (N 282) [.agg (rowK.cells a), .agg (rowK.cells b)] h Q
theorem delta_Apply_1.spec (i : delta_Apply_1.Imp C N) (s1 : bytes_Compare.Spec C N) : delta_Apply_1.Spec C N := by
  intro r s a b h Q ha hb hq
  apply i
  simp -dsimp [rowK]
  exact s1 _ _ _ _ _ _ ha.1 hb.1 (dn_same hq)
theorem exists_sub {α : Type} {p : α → Prop} : ∀ {P : List α}, (∀ a ∈ P, p a) → ∃ G : List { a // p a }, G.map (·.1) = P
  | [], _ => ⟨[], rfl⟩
  | a :: P, h => by
    obtain ⟨G, e⟩ := exists_sub (P := P) fun b hb => h b (List.mem_cons_of_mem _ hb)
    exact ⟨⟨a, h a (by simp)⟩ :: G, by simp [e]⟩
/-- Rows of one's own are put in order. -/
def slices_SortFunc_api_Row_api_Row.Spec (C : CSem) (N : Nat → Nat) : Prop := ∀ (h0 h : AHeap) (x : AVal) (P : List (Row × (AVal × AVal))) (R : List (List AVal)) (l : List Ob) (Q : AVal → AHeap → Prop), Owns h0 h (l ++ [.sl 2 x (P.map rowK.cs) R]) → P.length ≤ 100000000 →
  (∀ p ∈ P, ∀ h', (∀ o ∈ l, o.at h') → h0.le h' → rowK.at_ h' p.1 p.2) →
  (∀ h' (P' : List (Row × (AVal × AVal))), P'.Perm P → P'.Pairwise (fun s t => ¬ cmpB t.1.Key s.1.Key < 0) → Owns h0 h' (l ++ [.sl 2 x (P'.map rowK.cs) R]) → Q (.tup []) h') → C (N 283) [x, .fn (N 282) [] []] h Q
theorem slices_SortFunc_api_Row_api_Row.spec (i : slices_SortFunc_api_Row_api_Row.Imp C N) (j1 : slices_partitionEqualCmpFunc_api_Row.Imp C N) (j2 : slices_partitionCmpFunc_api_Row.Imp C N) (j3 : slices_pdqsortCmpFunc_api_Row.Imp C N) (j4 : slices_partialInsertionSortCmpFunc_api_Row.Imp C N)
    (j5 : slices_reverseRangeCmpFunc_api_Row.Imp C N) (j6 : slices_choosePivotCmpFunc_api_Row.Imp C N) (j7 : slices_breakPatternsCmpFunc_api_Row.Imp C N) (j8 : slices_heapSortCmpFunc_api_Row.Imp C N) (j9 : slices_insertionSortCmpFunc_api_Row.Imp C N) (k1 : slices_order2CmpFunc_api_Row.Imp C N)
    (k2 : slices_medianCmpFunc_api_Row.Imp C N) (k3 : slices_medianAdjacentCmpFunc_api_Row.Imp C N) (k4 : slices_siftDownCmpFunc_api_Row.Imp C N) (k5 : NextI C (N 298)) (k6 : PowI C (N 299)) (hl : LenI C (N 287)) (s1 : delta_Apply_1.Spec C N) : slices_SortFunc_api_Row_api_Row.Spec C N := by
  intro h0 h x P R l Q ho hlen hat hq
  have oo := ho.out
  have hat' : ∀ p ∈ P, rowK.at_ (h.without [.sl 2 x (P.map rowK.cs) R]) p.1 p.2 := fun p hp => hat p hp _ oo.1.is oo.1.le
  obtain ⟨G, hG⟩ := exists_sub hat'
  have hGl : G.length = P.length := by have := congrArg List.length hG; rwa [List.length_map] at this
  have hGc : G.map (fun p : { p : Row × (AVal × AVal) // rowK.at_ (h.without [.sl 2 x (P.map rowK.cs) R]) p.1 p.2 } => rowK.cells p.1.2) = P.map rowK.cs := by
    have := congrArg (List.map rowK.cs) hG
    rw [List.map_map] at this; exact this
  have orw : Rw (opsF 2 48 [.nils, .nils] 0 []) (fun p : { p : Row × (AVal × AVal) // rowK.at_ (h.without [.sl 2 x (P.map rowK.cs) R]) p.1 p.2 } => rowK.cells p.1.2) (h.without [.sl 2 x (P.map rowK.cs) R]) h x G R := by
    unfold Rw; rw [hGc]; exact oo.2
  have hc : CmpSpec C (fun p : { p : Row × (AVal × AVal) // rowK.at_ (h.without [.sl 2 x (P.map rowK.cs) R]) p.1 p.2 } => .agg (rowK.cells p.1.2)) (fun a b : { p : Row × (AVal × AVal) // rowK.at_ (h.without [.sl 2 x (P.map rowK.cs) R]) p.1 p.2 } => cmpB a.1.1.Key b.1.1.Key) (.fn (N 282) [] []) (h.without [.sl 2 x (P.map rowK.cs) R]) := ⟨fun h' a b K hle hk => s1 _ _ _ _ _ _ (rowK.mono hle a.2) (rowK.mono hle b.2) hk⟩
  have J : PdqI C (opsF 2 48 [.nils, .nils] 0 []) (N 289) (N 290) (N 288) (N 291) (N 292) (N 293) (N 294) (N 295) (N 296) (N 302) (N 300) (N 301) (N 297) (N 298) (N 299) := ⟨j1, j2, j3, j4, j5, j6, j7, j8, j9, k1, k2, k3, k4, k5, k6⟩
  refine i _ _ _ _ (SortFunc_spec J hl (rowS fun p : { p : Row × (AVal × AVal) // rowK.at_ (h.without [.sl 2 x (P.map rowK.cs) R]) p.1 p.2 } => p.1.2) (weakB fun p : { p : Row × (AVal × AVal) // rowK.at_ (h.without [.sl 2 x (P.map rowK.cs) R]) p.1 p.2 } => p.1.1.Key) hc (by rw [hGl]; exact hlen) orw fun h' G' hp hs o' => dn_same ?_)
  have hP' : (G'.map (·.1)).Perm P := by have := hp.map (·.1); rwa [hG] at this
  refine hq h' (G'.map (·.1)) hP' ?_ ?_
  · rw [List.pairwise_map]; exact hs
  · have e : G'.map (fun p : { p : Row × (AVal × AVal) // rowK.at_ (h.without [.sl 2 x (P.map rowK.cs) R]) p.1 p.2 } => rowK.cells p.1.2) = (G'.map (·.1)).map rowK.cs := by rw [List.map_map]; rfl
    unfold Rw at o'
    rw [e] at o'
    exact oo.1.join o'
end Go.Ab

/- What is proved: contract: rows are turned. No conditions. -/
set_option linter.unusedVariables false
set_option linter.unusedSimpArgs false
namespace Go.Ab
variable {C : CSem} {N : Nat → Nat}
def delta_Apply.Spec (C : CSem) (N : Nat → Nat) : Prop := ∀ (x y : AVal) (L : List Row) (T : List Turn) (h : AHeap) (Q : AVal → AHeap → Prop), Dl rowK h x L → Dl turnK h y T → L.length ≤ 1000000 → T.length ≤ 1000000 →
  (applyR L T = none → Q (.tup [.nils, .bool false]) h) → (∀ m x' P h', applyR L T = some m → P.map (·.1) = m → Df rowK h h' x' P → Q (.tup [x', .bool true]) h') → C (N 261) [x, y] h Q
theorem apply_out (s1 : slices_Clone_byte_byte.Spec C N) (s2 : slices_SortFunc_api_Row_api_Row.Spec C N) {h hh : AHeap} {ps : MEnt} {c m : Nat} {out : List Row} {Q : AVal → AHeap → Prop} (hlen : ps.length ≤ 10000000) (hout : RightL out) (mt : MapT h ps c (getR out)) (ho : Owns h hh [.blk m (mapBlk (encM kB vB ps) c)])
    (hq : ∀ x' P h', P.map (·.1) = out → Df rowK h h' x' P → Q (.tup [x', .bool true]) h') : B.rangeMap hh (.mp m) fun v64 h => LoopR (delta_Apply.l2 C N Q v64) [.nils] h := by
  refine ho.rangeMap (κ := kB) (v := vB) 0 rfl fun it h1 o1 _ => ?_
  have o1 := o1.nils 2
  refine LoopR.intro (fun n vs hh => ∃ (D : MEnt) (o : AVal) (P : List (Row × (AVal × AVal))), n = ps.length - D.length ∧ vs = [o] ∧ (∀ p ∈ D, p ∈ ps) ∧ (D.map (·.2.2)).Nodup ∧ P.map (·.1) = D.map rowOf ∧
    Owns h hh (.blk m (mapBlk (encM kB vB ps) c) :: .blk it (iterBlk m c (D.map (·.2.2)) c) :: .sl 2 o (P.map rowK.cs) [] :: rowK.os false P)) ps.length ?_ ⟨[], .nils, [], rfl, rfl, fun _ h => (by cases h), List.Pairwise.nil, rfl, by simpa [DK.os] using o1⟩
  rintro Y n vs h2 ⟨D, o, P, rfl, rfl, hD, hnd, hP, o2⟩ hY
  have sub : ∀ {D : MEnt}, (∀ p ∈ D, p ∈ ps) → (D.map (·.2.2)).Nodup → D.length ≤ ps.length := fun h1 h2 => List.Nodup.length_le_of_subset (List.Pairwise.of_map (S := (· ≠ ·)) (fun p : List UInt8 × (List UInt8 × AVal) × Nat => p.2.2) (fun a b h e => h (by rw [e])) h2) h1
  have hPl : P.length = D.length := by have := congrArg List.length hP; simpa using this
  have hDl := sub hD hnd
  have hok : ∀ p ∈ P, rowK.ok p.1 := fun p hp => by
    have : p.1 ∈ P.map (·.1) := List.mem_map.2 ⟨p, hp, rfl⟩
    rw [hP, List.mem_map] at this
    obtain ⟨e, he, e1⟩ := this
    rw [← e1]
    have := mt.ent e (hD e he)
    exact ⟨this.1, this.2.2.2.2⟩
  simp -dsimp only [delta_Apply.l2, delta_Apply.k1]
  refine o2.nextMap (κ := kB) (v := vB) 0 1 rfl rfl mt.births (Nat.le_refl c) (Nat.le_refl c) (fun hall => ?_) fun p hp hn h3 o3 _ hent => ?_
  · simp -dsimp
    have hperm := mt.births.all hD hnd hall
    have o4 : Owns h h2 ((.blk m (mapBlk (encM kB vB ps) c) :: .blk it (iterBlk m c (D.map (·.2.2)) c) :: rowK.os false P) ++ [.sl 2 o (P.map rowK.cs) []]) := o2.perm (by
      refine List.Perm.cons _ (List.Perm.cons _ ?_)
      exact (List.perm_append_comm (l₁ := [Ob.sl 2 o (P.map rowK.cs) []]) (l₂ := rowK.os false P)))
    refine s2 _ _ _ _ _ _ _ o4 (by omega) (fun p hp h' ha _ => rowK.ofObs (b := false) (hok p hp) fun ob hob => ha ob (List.mem_cons_of_mem _ (List.mem_cons_of_mem _ (List.mem_flatMap.2 ⟨p, hp, hob⟩)))) fun h' P' hp' hs o5 => ?_
    have e : P'.map (·.1) = out := rows_of_map (S := P'.map (·.1)) mt hout hperm (by have := hp'.map (·.1); rwa [hP] at this) (by rw [List.pairwise_map]; exact hs)
    refine hq o P' h' e ?_
    have o6 : Owns h h' (.sl 2 o (P'.map rowK.cs) [] :: rowK.os false P) := by
      have o7 := o5.perm (List.perm_append_comm (l₁ := (.blk m (mapBlk (encM kB vB ps) c) :: .blk it (iterBlk m c (D.map (·.2.2)) c) :: rowK.os false P)) (l₂ := [Ob.sl 2 o (P'.map rowK.cs) []]))
      exact o7.sub (List.Sublist.cons_cons _ (List.Sublist.cons _ (List.Sublist.cons _ (List.Sublist.refl _))))
    exact o6.perm (List.Perm.cons _ (hp'.symm.flatMap_right _))
  · have he := mt.ent p hp
    simp -dsimp [hent]
    refine strBytes_own he.1 fun x1 h4 o4 => ?_
    have o34 := o3.join o4
    refine s1 _ p.2.1.1 _ _ (he.2.2.2.mono o34.le) fun x2 h5 o5 => ?_
    have o35 := o34.join o5
    simp -dsimp [(bOb_bs he.1 o4).isCell, (bOb_bs he.2.2.2.2 o5).isCell]
    refine o35.push 2 rfl (cs := [x1, x2]) rfl (by omega) (by simp; omega) (by simp [maxLen]; omega) fun o' h6 o6 _ => ?_
    have hD' : ∀ q ∈ D ++ [p], q ∈ ps := fun q hq => by
      rcases List.mem_append.1 hq with hq | hq
      · exact hD q hq
      · rw [List.mem_singleton.1 hq]; exact hp
    have hnd' : ((D ++ [p]).map (·.2.2)).Nodup := by
      rw [List.map_append, List.nodup_append]
      refine ⟨hnd, List.pairwise_singleton _ _, fun a ha b hb e => ?_⟩
      rw [List.map_singleton, List.mem_singleton] at hb
      rw [e, hb] at ha
      exact hn ha
    have hl' := sub hD' hnd'
    simp only [List.length_append, List.length_singleton] at hl'
    refine hY (ps.length - (D.length + 1)) _ _ (by omega) ⟨D ++ [p], o', P ++ [(rowOf p, (x1, x2))], by simp, rfl, hD', hnd', ?_, ?_⟩
    · rw [List.map_append, List.map_append, hP]; rfl
    · rw [DK.os_append, DK.os_one, List.map_append, List.map_append]
      simp only [List.cons_append, List.set_cons_succ, List.set_cons_zero, List.append_assoc] at o6
      exact o6
theorem MapT.few {h : AHeap} {ps : MEnt} {c : Nat} {out : List Row} (mt : MapT h ps c (getR out)) : ps.length ≤ out.length := by
  have h1 : ∀ k ∈ keysP ps, k ∈ out.map (·.Key) := fun k hk => by
    have : ∃ q, getP ps k = some q := by
      cases e : getP ps k with
      | none => exact absurd hk (getP_none.1 e)
      | some q => exact ⟨q, rfl⟩
    obtain ⟨q, e⟩ := this
    obtain ⟨n, hn⟩ := getP_mem e
    have ht := mt.tab k
    unfold tabP at ht
    rw [e] at ht
    have hne : getR out k ≠ [] := by rw [← ht]; exact (mt.ent _ hn).2.2.1
    obtain ⟨r, hr, rfl, _⟩ := getR_ne hne
    exact List.mem_map.2 ⟨r, hr, rfl⟩
  have := List.Nodup.length_le_of_subset mt.nodup h1
  unfold keysP at this
  simpa using this
theorem putGo_len (k v : List UInt8) : ∀ (l : List Row) (d : Bool), (putGo k v d l).length ≤ l.length + (if d then 0 else 1)
  | [], d => by cases d <;> simp [putGo]
  | r :: l, d => by
    rw [putGo]
    have ih := putGo_len k v l (d || !lessB r.Key k)
    generalize lessB r.Key k = b at ih ⊢
    have h3 : ((if r.Key = k then [] else [r]) : List Row).length ≤ 1 := by split <;> simp
    simp only [List.length_append, List.length_cons]
    cases d <;> cases b <;> simp at ih ⊢ <;> omega
theorem goA_len : ∀ (ts : List Turn) {out m : List Row}, goA out ts = some m → m.length ≤ out.length + ts.length
  | [], out, m, h => by cases h; simp
  | t :: ts, out, m, h => by
    rw [goA] at h
    split at h
    · cases h
    · have := goA_len ts h
      have h2 := putGo_len t.Key t.New out (decide (t.New = []))
      unfold putR at this
      simp only [List.length_cons]
      split at h2 <;> omega
theorem delta_Apply.spec (i : delta_Apply.Imp C N) (s1 : delta_right.Spec C N) (s2 : bytes_Equal.Spec C N) (s3 : slices_Clone_byte_byte.Spec C N) (s4 : slices_SortFunc_api_Row_api_Row.Spec C N) : delta_Apply.Spec C N := by
  intro x y L T h Q hx hy hl1 hl2 hno hyes
  apply i
  simp -dsimp only [delta_Apply.cps, delta_Apply.k7]
  refine s1 _ _ _ _ hx (by omega) ?_
  by_cases hL : rightR L = true
  · have hR := rightR_iff.1 hL
    have ha : applyR L T = goA L T := by unfold applyR; rw [if_pos hL]
    rw [ha] at hno hyes
    simp -dsimp only [hL, V.un_not, Bool.not_true, B.pv_some, B.cond_false]
    refine (Owns.start h).newMap kB vB fun m h1 _ o1 _ => ?_
    simp only [List.nil_append] at o1
    simp -dsimp only [hx.lenSl, B.pv_some]
    refine apply_lay hx hR hl1 o1 hy.lenSl fun h2 ps c o2 mt => ?_
    refine apply_turn s2 hy hl2 o2 hR mt (fun e h' hle => dn_le hle (hno e)) fun h3 ps' c' out e hout o3 mt' => ?_
    have h4 := mt'.few
    have h5 := goA_len T e
    exact apply_out s3 s4 (by omega) hout mt' o3 fun x' P h' e' o' => dn_same (hyes out x' P h' e e' o')
  · have hL' : rightR L = false := by simpa using hL
    have ha : applyR L T = none := by unfold applyR; rw [if_neg hL]
    simp -dsimp only [hL', V.un_not, Bool.not_false, B.pv_some, B.cond_true]
    exact dn_same (hno ha)
end Go.Ab

/- What is told: residuals: what each function does in the abstract memory, printed by a program of mine. Definitions alone. -/
set_option linter.unusedVariables false
namespace Go.Ab
end Go.Ab

/- What is proved: contracts: the document's rows and turns. No conditions. -/
set_option linter.unusedVariables false
set_option linter.unusedSimpArgs false
namespace Go.Ab
variable {C : CSem} {N : Nat → Nat}
/-- A list of one's own whose elements are others'. -/
def Ds {T Ad : Type} (K : DK T Ad) (h0 h : AHeap) (x : AVal) (L : List T) : Prop := ∃ (P : List (T × Ad)) (R : List (List AVal)), P.map (·.1) = L ∧ Owns h0 h [.sl K.n x (P.map K.cs) R] ∧ ∀ p ∈ P, K.at_ h0 p.1 p.2
theorem Ds.dl {T Ad : Type} {K : DK T Ad} {h0 h : AHeap} {x : AVal} {L : List T} (d : Ds K h0 h x L) : Dl K h x L := by
  obtain ⟨P, R, e, o, a⟩ := d
  exact ⟨P, R, e, o.slAt 0 rfl, fun p hp => K.mono o.le (a p hp)⟩
theorem Ds.le {T Ad : Type} {K : DK T Ad} {h0 h : AHeap} {x : AVal} {L : List T} (d : Ds K h0 h x L) : h0.le h := by
  obtain ⟨P, R, e, o, a⟩ := d
  exact o.le
theorem Ds.nils {T Ad : Type} (K : DK T Ad) (h : AHeap) : Ds K h h .nils [] := ⟨[], [], rfl, by simpa using (Owns.start h).nils K.n, fun _ h => by cases h⟩
theorem Ds.push {T Ad : Type} {K : DK T Ad} {h0 h : AHeap} {x : AVal} {L : List T} {t : T} {a : Ad} {Q : AVal → AHeap → Prop} (d : Ds K h0 h x L) (hl : L.length ≤ 100000000) (ha : K.at_ h0 t a) (hq : ∀ y h', Ds K h0 h' y (L ++ [t]) → Q y h') :
    A.newO h (some (K.cells a)) fun i h => A.appW h K.n K.bytes x (.sl i 0 0 1 K.n 1) Q := by
  obtain ⟨P, R, rfl, o, ha'⟩ := d
  rw [List.length_map] at hl
  have hm := Nat.mul_le_mul (show P.length + 1 ≤ 100000001 by omega) K.small
  refine o.push 0 rfl (K.len a) K.pos (by simp only [List.length_map]; omega) (by simp [maxLen]; omega) fun y h' o' _ => hq y h' ⟨P ++ [(t, a)], [], by simp, ?_, fun p hp => ?_⟩
  · rw [List.map_append]; exact o'
  · rcases List.mem_append.1 hp with hp | hp
    · exact ha' p hp
    · rw [List.mem_singleton.1 hp]; exact ha
end Go.Ab

/- What is proved: contracts: the document's turns told, rows turned. No conditions. -/
set_option linter.unusedVariables false
set_option linter.unusedSimpArgs false
namespace Go.Ab
variable {C : CSem} {N : Nat → Nat}
end Go.Ab

/- What is proved: contracts of what the statements share about turns: are they the same, lent, kept, copied, marks. No conditions. -/
set_option linter.unusedVariables false
set_option linter.unusedSimpArgs false
namespace Go.Ab
variable {C : CSem} {N : Nat → Nat}
def kit_SameTurn.Spec (C : CSem) (N : Nat → Nat) : Prop := SameE turnK C (N 120)
theorem kit_SameTurn.spec (i : kit_SameTurn.Imp C N) (s1 : kit_SameBytes.SpecL C N) : kit_SameTurn.Spec C N := by
  intro t u a b h Q ha hb hq
  obtain ⟨a1, a2, a3⟩ : Bs h a.1 t.Key ∧ Bs h a.2.1 t.Old ∧ Bs h a.2.2 t.New := ha
  obtain ⟨b1, b2, b3⟩ : Bs h b.1 u.Key ∧ Bs h b.2.1 u.Old ∧ Bs h b.2.2 u.New := hb
  apply i
  simp -dsimp [turnK]
  refine s1 _ _ _ _ _ _ a1 b1 ?_
  simp +contextual -dsimp
  refine B.gdb_call (v := .bool (decide (t.Old = u.Old))) (fun _ Q hq => s1 _ _ _ _ _ _ a2 b2 hq) ?_
  simp +contextual -dsimp
  refine B.gdb_call (v := .bool (decide (t.New = u.New))) (fun _ Q hq => s1 _ _ _ _ _ _ a3 b3 hq) ?_
  simp -dsimp
  refine dn_same ?_
  have : decide (t = u) = (decide (t.Key = u.Key) && decide (t.Old = u.Old) && decide (t.New = u.New)) := by
    cases t; cases u; simp [Turn.mk.injEq, Bool.and_assoc]
  rw [this] at hq
  exact hq
def kit_CopyTurn.Spec (C : CSem) (N : Nat → Nat) : Prop := OneE turnK false C (N 314)
theorem kit_CopyTurn.spec (i : kit_CopyTurn.Imp C N) (s1 : kit_CopyBytes.SpecL C N) : kit_CopyTurn.Spec C N := by
  intro t a h Q ha hq
  obtain ⟨a1, a2, a3⟩ : Bs h a.1 t.Key ∧ Bs h a.2.1 t.Old ∧ Bs h a.2.2 t.New := ha
  apply i
  simp -dsimp [turnK]
  refine s1 _ _ _ _ a1 fun x1 h1 o1 => ?_
  simp -dsimp [((o1.is _ (List.mem_singleton_self _)) : (bOb false x1 t.Key).at h1).isCell]
  refine s1 _ _ _ _ (a2.mono o1.le) fun x2 h2 o2 => ?_
  simp -dsimp [((o2.is _ (List.mem_singleton_self _)) : (bOb false x2 t.Old).at h2).isCell]
  have o12 := o1.join o2
  refine s1 _ _ _ _ (a3.mono o12.le) fun x3 h3 o3 => ?_
  simp -dsimp [((o3.is _ (List.mem_singleton_self _)) : (bOb false x3 t.New).at h3).isCell]
  exact dn_same (hq (x1, x2, x3) h3 (o12.join o3))
def markTurn (k i : Int) : Turn := ⟨[markByte k i], [], []⟩
theorem markTurn_ok (k i : Int) : turnK.ok (markTurn k i) := ⟨by simp [markTurn, far], by simp [markTurn], by simp [markTurn]⟩
def kit_markTurn.Spec (C : CSem) (N : Nat → Nat) : Prop := MarkE turnK markTurn C (N 119)
theorem kit_markTurn.spec (i : kit_markTurn.Imp C N) (s1 : kit_markByte.Spec C N) : kit_markTurn.Spec C N := by
  intro k j h Q hq
  apply i
  simp -dsimp
  refine s1 _ _ _ _ ?_
  simp -dsimp
  intro id hid
  simp -dsimp
  have o := (Owns.start h).newSl hid (n := 1) (cp := 1) (es := 1) (cs := [.int .u8 ((markByte k j).toNat : Int)]) (L := [markByte k j].map bc) (R := []) (by simp) rfl (by simp) rfl
  exact dn_same (hq (.sl id 0 0 1 1 1, .nils, .nils) _ (by simpa [turnK, markTurn, bOb] using (o.nils 1).nils 1))
def kit_CopyTurns.Spec (C : CSem) (N : Nat → Nat) : Prop := ∀ (x : AVal) (L : List Turn) (h : AHeap) (Q : AVal → AHeap → Prop), Dl turnK h x L → L.length ≤ 100000000 →
  (∀ x' P h', P.map (·.1) = L → Df turnK h h' x' P → Q x' h') → C (N 308) [x] h Q
theorem kit_CopyTurns.spec (i : kit_CopyTurns.Imp C N) (s1 : kit_CopyTurn.Spec C N) : kit_CopyTurns.Spec C N := fun x L h Q hx hl hq =>
  i x h Q (copyD_spec (K := turnK) s1 hx hl fun x' P h' e o => dn_same (hq x' P h' e o))
end Go.Ab

/- What is proved: contracts of the seventeenth chapter's statements' functions. No conditions. -/
set_option linter.unusedVariables false
set_option linter.unusedSimpArgs false
namespace Go.Ab
variable {C : CSem} {N : Nat → Nat}
theorem getR_far {l : List Row} (h : ∀ r ∈ l, rowK.ok r) (k : List UInt8) : (getR l k).length ≤ far := by
  by_cases e : getR l k = []
  · rw [e]; exact Nat.zero_le _
  · obtain ⟨r, hr, _, e2⟩ := getR_ne e
    rw [← e2]; exact (h r hr).2
theorem turnsP_ok {a b : List Row} (ha : ∀ r ∈ a, rowK.ok r) (hb : ∀ r ∈ b, rowK.ok r) : ∀ t ∈ turnsP a b, turnK.ok t := by
  intro t ht
  unfold turnsP at ht
  split at ht
  · cases ht
  · rename_i h
    simp only [Bool.or_eq_true, Bool.not_eq_true', not_or, Bool.not_eq_false] at h
    obtain ⟨h1, h2, h3⟩ := ((turnsM_of a b (rightR_iff.1 h.1) (rightR_iff.1 h.2)).mem t).1 ht
    refine ⟨?_, by rw [h1]; exact getR_far ha _, by rw [h2]; exact getR_far hb _⟩
    rw [h1, h2] at h3
    rcases ne_or h3 with h3 | h3
    · obtain ⟨r, hr, e, _⟩ := getR_ne h3
      rw [← e]; exact (ha r hr).1
    · obtain ⟨r, hr, e, _⟩ := getR_ne h3
      rw [← e]; exact (hb r hr).1
theorem putGo_ok {k v : List UInt8} (hk : k.length ≤ far) (hv : v.length ≤ far) : ∀ {l : List Row} (d : Bool), (∀ r ∈ l, rowK.ok r) → ∀ r ∈ putGo k v d l, rowK.ok r
  | [], d, _, r, hr => by
    rw [putGo] at hr
    split at hr
    · cases hr
    · rw [List.mem_singleton.1 hr]; exact ⟨hk, hv⟩
  | s :: l, d, h, r, hr => by
    rw [putGo, List.mem_append, List.mem_append] at hr
    rcases hr with hr | hr | hr
    · split at hr
      · rw [List.mem_singleton.1 hr]; exact ⟨hk, hv⟩
      · cases hr
    · split at hr
      · cases hr
      · rw [List.mem_singleton.1 hr]; exact h s (by simp)
    · exact putGo_ok hk hv _ (fun t ht => h t (List.mem_cons_of_mem _ ht)) r hr
theorem goA_ok : ∀ (ts : List Turn) {out m : List Row}, (∀ t ∈ ts, turnK.ok t) → (∀ r ∈ out, rowK.ok r) → goA out ts = some m → ∀ r ∈ m, rowK.ok r
  | [], out, m, _, ho, h => by cases h; exact ho
  | t :: ts, out, m, ht, ho, h => by
    rw [goA] at h
    split at h
    · cases h
    · exact goA_ok ts (fun u hu => ht u (List.mem_cons_of_mem _ hu)) (putGo_ok (ht t (by simp)).1 (ht t (by simp)).2.2 _ ho) h
theorem applyR_ok {l m : List Row} {t : List Turn} (ht : ∀ x ∈ t, turnK.ok x) (hl : ∀ r ∈ l, rowK.ok r) (h : applyR l t = some m) : ∀ r ∈ m, rowK.ok r := by
  unfold applyR at h
  split at h
  · exact goA_ok t ht hl h
  · cases h
theorem backR_ok {t : List Turn} (ht : ∀ x ∈ t, turnK.ok x) : ∀ x ∈ backR t, turnK.ok x := by
  intro x hx
  unfold backR at hx
  rw [List.mem_reverse, List.mem_map] at hx
  obtain ⟨y, hy, rfl⟩ := hx
  exact ⟨(ht y hy).1, (ht y hy).2.2, (ht y hy).2.1⟩
theorem Df.dl' {T Ad : Type} {K : DK T Ad} {h0 h : AHeap} {x : AVal} {P : List (T × Ad)} {L : List T} (hd : Df K h0 h x P) (e : P.map (·.1) = L) (hok : ∀ t ∈ L, K.ok t) : Dl K h x L := by
  rw [← e]
  exact hd.dl fun p hp => hok _ (by rw [← e]; exact List.mem_map.2 ⟨p, hp, rfl⟩)

def law17_row.Spec (C : CSem) (N : Nat → Nat) : Prop := ∀ (k v : List UInt8) (h : AHeap) (Q : AVal → AHeap → Prop), k.length ≤ far → v.length ≤ far → (∀ a' h', Owns h h' (rowK.obs false ⟨k, v⟩ a') → Q (.agg (rowK.cells a')) h') → C (N 270) [.str k, .str v] h Q
theorem law17_row.spec (i : law17_row.Imp C N) : law17_row.Spec C N := by
  intro k v h Q hk hv hq
  apply i
  simp -dsimp only [law17_row.cps, law17_row.k1]
  refine strBytes_own hk fun x1 h1 o1 => ?_
  refine strBytes_own hv fun x2 h2 o2 => ?_
  simp -dsimp [(bOb_bs hk o1).isCell, (bOb_bs hv o2).isCell]
  exact dn_same (hq (x1, x2) h2 (o1.join o2))
theorem two_rows {h : AHeap} {r1 r2 : Row} {a b : AVal × AVal} (h1 : rowK.at_ h r1 a) (h2 : rowK.at_ h r2 b) {id : Nat} (hid : h id = none) : Dl rowK (upd h id (blkOf [a.1, a.2, b.1, b.2])) (.sl id 0 0 2 2 2) [r1, r2] := by
  have hle : h.le (upd h id (blkOf [a.1, a.2, b.1, b.2])) := le_upd _ hid
  refine ⟨[(r1, a), (r2, b)], [], rfl, SlX.lit (upd_same ..) (by intro p hp; simp at hp; rcases hp with rfl | rfl <;> rfl) rfl (by simp) rfl, fun p hp => ?_⟩
  simp only [List.mem_cons, List.not_mem_nil, or_false] at hp
  rcases hp with rfl | rfl
  · exact rowK.mono hle h1
  · exact rowK.mono hle h2
theorem fill_two (a b : AVal × AVal) : fillL [(0, some 2, .agg (rowK.cells a)), (2, some 2, .agg (rowK.cells b))] (repL 2 [.nils, .nils]) = some [a.1, a.2, b.1, b.2] := by
  simp [rowK, repL]
abbrev rowsA : List Row := [⟨[97], [49]⟩, ⟨[98], [50]⟩]
abbrev rowsB : List Row := [⟨[98], [51]⟩, ⟨[99], [52]⟩]
theorem rowsA_right : RightL rowsA := rightR_iff.1 (by decide)
theorem rowsB_right : RightL rowsB := rightR_iff.1 (by decide)
theorem rowsAB_len : (turnsP rowsA rowsB).length = 3 := by rw [turnsP_eq]; decide
theorem smallA : ∀ r ∈ rowsA, rowK.ok r := by
  intro r hr
  simp only [rowsA, List.mem_cons, List.not_mem_nil, or_false] at hr
  rcases hr with rfl | rfl <;> exact ⟨by simp [far], by simp [far]⟩
theorem smallB : ∀ r ∈ rowsB, rowK.ok r := by
  intro r hr
  simp only [rowsB, List.mem_cons, List.not_mem_nil, or_false] at hr
  rcases hr with rfl | rfl <;> exact ⟨by simp [far], by simp [far]⟩
def law17_awake.Spec (C : CSem) (N : Nat → Nat) : Prop := ∀ (h : AHeap) (Q : AVal → AHeap → Prop), Q (.bool true) h → C (N 253) [] h Q
theorem law17_awake.spec (i : law17_awake.Imp C N) (s1 : law17_row.Spec C N) (s2 : delta_Turns.Spec C N) (s3 : delta_Apply.Spec C N) (s4 : delta_Back.Spec C N) (s5 : kit_SameRows.Spec C N) : law17_awake.Spec C N := by
  intro h Q hq
  apply i
  have f1 : ∀ u : UInt8, [u].length ≤ far := fun u => by simp [far]
  simp -dsimp only [law17_awake.cps, law17_awake.k1]
  refine s1 _ _ _ _ (f1 _) (f1 _) fun a1 h1 o1 => ?_
  refine s1 _ _ _ _ (f1 _) (f1 _) fun a2 h2 o2 => ?_
  rw [fill_two]
  intro id3 hid3
  have A0 := two_rows (rowK.mono o2.le (rowK.ofObs (t := ⟨[97], [49]⟩) ⟨f1 _, f1 _⟩ o1.is)) (rowK.ofObs (t := ⟨[98], [50]⟩) ⟨f1 _, f1 _⟩ o2.is) hid3
  have l3 := AHeap.le_trans (AHeap.le_trans o1.le o2.le) (le_upd (blkOf [a1.1, a1.2, a2.1, a2.2]) hid3)
  generalize upd h2 id3 (blkOf [a1.1, a1.2, a2.1, a2.2]) = h3 at A0 l3 ⊢
  refine s1 _ _ _ _ (f1 _) (f1 _) fun b1 h4 o4 => ?_
  refine s1 _ _ _ _ (f1 _) (f1 _) fun b2 h5 o5 => ?_
  rw [fill_two]
  intro id6 hid6
  have B0 := two_rows (rowK.mono o5.le (rowK.ofObs (t := ⟨[98], [51]⟩) ⟨f1 _, f1 _⟩ o4.is)) (rowK.ofObs (t := ⟨[99], [52]⟩) ⟨f1 _, f1 _⟩ o5.is) hid6
  have l6 := AHeap.le_trans (AHeap.le_trans o4.le o5.le) (le_upd (blkOf [b1.1, b1.2, b2.1, b2.2]) hid6)
  generalize upd h5 id6 (blkOf [b1.1, b1.2, b2.1, b2.2]) = h6 at B0 l6 ⊢
  have A6 := A0.mono l6
  refine s2 _ _ _ _ _ _ A6 B0 (by simp) fun x7 P7 h7 e7 o7 => ?_
  have T7 := o7.dl' e7 (turnsP_ok smallA smallB)
  have lt : (turnsP rowsA rowsB).length = 3 := rowsAB_len
  refine s3 _ _ _ _ _ _ (A6.mono o7.le) T7 (by simp) (by rw [lt]; omega) (fun e => by rw [apply_turns rowsA_right rowsB_right] at e; cases e) fun m x8 P8 h8 em e8 o8 => ?_
  rw [apply_turns rowsA_right rowsB_right] at em
  cases em
  have R8 := o8.dl' e8 smallB
  simp -dsimp only [V.ext_tup, List.getElem?_cons_zero, List.getElem?_cons_succ, B.pv_some]
  refine s4 _ _ _ _ (T7.mono o8.le) (by rw [lt]; omega) fun x9 P9 h9 e9 o9 => ?_
  have T9 := o9.dl' e9 (backR_ok (turnsP_ok smallA smallB))
  refine s3 _ _ _ _ _ _ (R8.mono o9.le) T9 (by simp) (by simp [backR, lt]) (fun e => by rw [apply_back rowsA_right rowsB_right] at e; cases e) fun m x10 P10 h10 em e10 o10 => ?_
  rw [apply_back rowsA_right rowsB_right] at em
  cases em
  have R10 := o10.dl' e10 smallA
  have l9 := AHeap.le_trans o9.le o10.le
  have l8 := AHeap.le_trans o8.le l9
  have l7 := AHeap.le_trans o7.le l8
  have hlen := (T7.mono l8).lenSl
  rw [lt] at hlen
  simp -dsimp [hlen]
  refine s5 _ _ _ _ _ _ (R8.mono l9) (B0.mono l7) (by simp) ?_
  simp -dsimp
  refine s5 _ _ _ _ _ _ R10 (A6.mono l7) (by simp) ?_
  simp -dsimp
  exact dn_le (AHeap.le_trans l3 (AHeap.le_trans l6 l7)) hq
/-! The arguments. -/
abbrev tyRow : Ty := .st [.sl 1 1 (.i .u8), .sl 1 1 (.i .u8)]
abbrev tyTurn : Ty := .st [.sl 1 1 (.i .u8), .sl 1 1 (.i .u8), .sl 1 1 (.i .u8)]
theorem dBs {H : AHeap} {v : AVal} (h : AbsOk H (.sl 1 1 (.i .u8)) [v]) : ∃ b : List UInt8, Bs H v b := by
  obtain ⟨L, h1, h2⟩ := arg_slice bc (fun p hp => dByte hp) h
  exact ⟨L, ⟨[], h1⟩, by unfold reach at h2; unfold far; omega⟩
theorem absSl_one {H : AHeap} {b e : Nat} {t : Ty} {c : List AVal} (h : AbsOk H (.sl b e t) c) : ∃ v, c = [v] := by
  rcases h with h | h | ⟨_, _, h, _⟩ <;> exact ⟨_, h⟩
theorem dRow {H : AHeap} {p : List AVal} (h : AbsOk H tyRow p) : ∃ (t : Row) (a : AVal × AVal), p = rowK.cells a ∧ rowK.at_ H t a := by
  obtain ⟨a, r, rfl, h1, ⟨b, r2, rfl, h2, hr⟩⟩ := h
  cases hr
  obtain ⟨v, rfl⟩ := absSl_one h1
  obtain ⟨w, rfl⟩ := absSl_one h2
  obtain ⟨s, hs⟩ := dBs h1
  obtain ⟨t, ht⟩ := dBs h2
  exact ⟨⟨s, t⟩, (v, w), rfl, hs, ht⟩
theorem dTurn {H : AHeap} {p : List AVal} (h : AbsOk H tyTurn p) : ∃ (t : Turn) (a : AVal × AVal × AVal), p = turnK.cells a ∧ turnK.at_ H t a := by
  obtain ⟨a, r, rfl, h1, ⟨b, r2, rfl, h2, ⟨c, r3, rfl, h3, hr⟩⟩⟩ := h
  cases hr
  obtain ⟨v, rfl⟩ := absSl_one h1
  obtain ⟨w, rfl⟩ := absSl_one h2
  obtain ⟨u, rfl⟩ := absSl_one h3
  obtain ⟨s, hs⟩ := dBs h1
  obtain ⟨t, ht⟩ := dBs h2
  obtain ⟨q, hq⟩ := dBs h3
  exact ⟨⟨s, t, q⟩, (v, w, u), rfl, hs, ht, hq⟩
theorem arg_sliceD {T Ad : Type} {K : DK T Ad} {H : AHeap} {bytes : Nat} {e : Ty} {v : AVal} (hd : ∀ p, AbsOk H e p → ∃ (t : T) (a : Ad), p = K.cells a ∧ K.at_ H t a) (h : AbsOk H (.sl bytes K.n e) [v]) : ∃ L : List T, Dl K H v L ∧ L.length * bytes ≤ reach := by
  obtain ⟨G, h1, h2⟩ := arg_slice (T := { p : T × Ad // K.at_ H p.1 p.2 }) (fun p => K.cells p.1.2) (fun p hp => by obtain ⟨t, a, e, k⟩ := hd p hp; exact ⟨⟨(t, a), k⟩, e⟩) h
  refine ⟨(G.map (·.1)).map (·.1), ⟨G.map (·.1), [], rfl, ?_, fun p hp => ?_⟩, by simpa using h2⟩
  · rw [List.map_map]; exact h1
  · obtain ⟨q, _, rfl⟩ := List.mem_map.1 hp; exact q.2
theorem dRows {H : AHeap} {v : AVal} (h : AbsOk H (.sl 48 2 tyRow) [v]) : ∃ L : List Row, Dl rowK H v L ∧ L.length < 4000000000000 := by
  obtain ⟨L, h1, h2⟩ := arg_sliceD (K := rowK) (fun p hp => dRow hp) h
  exact ⟨L, h1, by unfold reach at h2; omega⟩
theorem dTurns {H : AHeap} {v : AVal} (h : AbsOk H (.sl 72 3 tyTurn) [v]) : ∃ L : List Turn, Dl turnK H v L ∧ L.length < 4000000000000 := by
  obtain ⟨L, h1, h2⟩ := arg_sliceD (K := turnK) (fun p hp => dTurn hp) h
  exact ⟨L, h1, by unfold reach at h2; omega⟩
end Go.Ab

/- What is proved: contracts of the seventeenth chapter's statements: rows turned; there and back. No conditions. -/
set_option linter.unusedVariables false
set_option linter.unusedSimpArgs false
namespace Go.Ab
variable {C : CSem} {N : Nat → Nat}
end Go.Ab

/- What is proved: what the statements ask of lists that lie apart holds of lists of one's own, where marks lead to memory of their own. No conditions. -/
set_option linter.unusedVariables false
set_option linter.unusedSimpArgs false
namespace Go.Ab
variable {C : CSem} {N : Nat → Nat}
/-- What is loaded is the same in both memories. -/
def Kp2 (h h' : AHeap) (p : AVal) (o : Option Nat) : Prop := match o with
  | none => ∃ x, A.ldv h p = some x ∧ A.ldv h' p = some x
  | some n => ∃ x, A.ldnv h p n = some x ∧ A.ldnv h' p n = some x
theorem keepD2 {h h' : AHeap} {p q : AVal} {o u : Option Nat} {K : AVal → AHeap → Prop} {v : AVal} (h1 : Kp2 h h' p o) (h2 : Kp2 h h' q u) (hk : K v h') : B.keepS h [(p, o), (q, u)] K v h' := by
  refine ⟨fun r hr => ?_, hk⟩
  rcases List.mem_cons.1 hr with rfl | hr
  · unfold Kp2 at h1; cases o <;> exact h1
  · rw [List.mem_singleton.1 hr]; unfold Kp2 at h2; cases u <;> exact h2
theorem keepD1 {h h' : AHeap} {p : AVal} {o : Option Nat} {K : AVal → AHeap → Prop} {v : AVal} (h1 : Kp2 h h' p o) (hk : K v h') : B.keepS h [(p, o)] K v h' := by
  refine ⟨fun r hr => ?_, hk⟩
  rw [List.mem_singleton.1 hr]; unfold Kp2 at h1; cases o <;> exact h1
/-- The base takes in what was made since. -/
theorem Owns.rebase {h0 h h' : AHeap} {l l' : List Ob} (ho : Owns h0 h l) (hn : Owns h h' l') : ∃ h1 : AHeap, h0.le h1 ∧ h1.le h' ∧ Owns h1 h' l ∧ AllAt h1 l' := by
  obtain ⟨q1, q2⟩ := ((ho.join hn).perm List.perm_append_comm).out
  exact ⟨_, q1.le, q2.le, q2, q1.is⟩
/-- What is asked of a kind of elements: marks, as they read in a memory; as values. -/
structure ElD (C : CSem) (E : ElOps) (Mk : AHeap → Int → Int → List AVal → Prop) (v : List AVal → AVal) : Prop where
  pos : 0 < E.es
  zlen : E.z.length = E.es
  len : ∀ {h : AHeap} {k i : Int} {c : List AVal}, Mk h k i c → c.length = E.es
  mono : ∀ {h h' : AHeap} {k i : Int} {c : List AVal}, h.le h' → Mk h k i c → Mk h' k i c
  new : ∀ {h : AHeap} {k i : Int} {c : List AVal}, Mk h k i c → fillL [(0, E.kp, v c)] (repL 1 E.z) = some c
  call : ∀ (k i : Int) (h : AHeap) (Q : AVal → AHeap → Prop), (∀ c h' l, Owns h h' l → (∀ h1, AllAt h1 l → Mk h1 k i c) → Q (v c) h') → C E.f [.int .i64 k, .int .i64 i] h Q
  ld : ∀ {h : AHeap} {x : AVal} {L R : List (List AVal)} {i : Nat} {c : List AVal} {K : AVal → Prop}, SlX h E.es x L R → L[i]? = some c → K (v c) → E.ld h (elp E.es x i 0) K
  kpt : ∀ {h h' : AHeap} {x : AVal} {L R : List (List AVal)} {i : Nat} {c : List AVal}, SlX h E.es x L R → SlX h' E.es x L R → L[i]? = some c → Kp2 h h' (elp E.es x i 0) E.kp
  st : ∀ {h : AHeap} {x : AVal} {L R : List (List AVal)} {i : Nat} {c c0 : List AVal} {k j : Int} {K : AHeap → Prop}, SlX h E.es x L R → (∀ id b, foot x = some id → h id = some b → b.own = true) → L[i]? = some c0 → Mk h k j c →
    (∀ h', SlX h' E.es x (L.set i c) R → (∀ id b, foot x = some id → h' id = some b → b.own = true) → But x h h' → K h') → E.st h (elp E.es x i 0) (v c) K
  eq : ∀ {h : AHeap} {k i : Int} {c c' : List AVal} {K : AVal → AHeap → Prop}, Mk h k i c → Mk h k i c' → K (.bool true) h → E.eq h (v c) (v c') K
/-- Marks, one by one, from a place on. -/
def MkAll (Mk : AHeap → Int → Int → List AVal → Prop) (h : AHeap) (k s : Nat) (D : List (List AVal)) : Prop := ∀ (i : Nat) (c : List AVal), D[i]? = some c → Mk h (k : Int) ((s + i : Nat) : Int) c
section
variable {E : ElOps} {Mk : AHeap → Int → Int → List AVal → Prop} {v : List AVal → AVal} {h0 h h' : AHeap} {k s : Nat} {D : List (List AVal)}
theorem MkAll.mono (S : ElD C E Mk v) (m : MkAll Mk h k s D) (hle : h.le h') : MkAll Mk h' k s D := fun i c hc => S.mono hle (m i c hc)
theorem MkAll.nil (Mk : AHeap → Int → Int → List AVal → Prop) (h : AHeap) (k s : Nat) : MkAll Mk h k s [] := fun i c hc => by simp at hc
theorem MkAll.snoc {c : List AVal} (m : MkAll Mk h k s D) (hc : Mk h (k : Int) ((s + D.length : Nat) : Int) c) : MkAll Mk h k s (D ++ [c]) := fun i d hd => by
  rw [List.getElem?_append] at hd
  split at hd
  · exact m i d hd
  · rename_i hlt
    have hi : i - D.length = 0 := by
      cases e : i - D.length with
      | zero => rfl
      | succ j => rw [e] at hd; simp at hd
    rw [hi] at hd
    simp only [List.getElem?_cons_zero, Option.some.injEq] at hd
    subst hd
    have : i = D.length := by omega
    subst this; exact hc
theorem MkAll.append {D' : List (List AVal)} (m : MkAll Mk h k s D) (m' : MkAll Mk h k (s + D.length) D') : MkAll Mk h k s (D ++ D') := fun i d hd => by
  rw [List.getElem?_append] at hd
  split at hd
  · exact m i d hd
  · have := m' _ _ hd
    rwa [show s + D.length + (i - D.length) = s + i by omega] at this
end
/-- The lists as they were (marked), the newer ones, and the list of these. -/
structure FD (E : ElOps) (h0 h : AHeap) (v5 : AVal) (n : Nat) (xs : Nat → AVal) (X : Nat → List (List AVal)) (ys : Nat → AVal) (F : Nat → List (List AVal)) (gs : Nat → AVal) : Prop where
  own : Owns h0 h (Objs E.es n ys F (fun _ => []) ++ [.sl 1 v5 (fills n fun j => [gs j]) []])
  old : ∀ j, j < n → Old h E.es (xs j) (X j) (ys j) (F j)
section
variable {E : ElOps} {Mk : AHeap → Int → Int → List AVal → Prop} {v : List AVal → AVal} {h0 h h' : AHeap} {x v5 : AVal} {n k : Nat} {xs ys gs : Nat → AVal} {X F : Nat → List (List AVal)} {W : List (List AVal)} {Q : AVal → AHeap → Prop}
theorem FD.grow (fs : FD E h0 h v5 n xs X ys F gs) (hle : h.le h') : FD E h0 h' v5 n xs X ys F gs := ⟨fs.own.grow hle, fun j hj => (fs.old j hj).mono hle⟩
theorem FD.rebase (fs : FD E h0 h v5 n xs X ys F gs) {l' : List Ob} (hn : Owns h h' l') : ∃ h1 : AHeap, h0.le h1 ∧ h1.le h' ∧ FD E h1 h' v5 n xs X ys F gs ∧ AllAt h1 l' := by
  obtain ⟨h1, a, b, o, c⟩ := fs.own.rebase hn
  exact ⟨h1, a, b, ⟨o, fun j hj => (fs.old j hj).mono hn.le⟩, c⟩
theorem FD.gAt (fs : FD E h0 h v5 n xs X ys F gs) : SlX h 1 v5 (fills n fun j => [gs j]) [] := fs.own.slAt n Objs.getL
theorem FD.yAt (fs : FD E h0 h v5 n xs X ys F gs) (hk : k < n) : SlX h E.es (ys k) (F k) [] := fs.own.slAt k (Objs.getA hk)
theorem FD.turn (fs : FD E h0 h v5 n xs X ys F gs) (hk : k < n) {y : AVal} {L : List (List AVal)} (h1 : SlX h' E.es y L []) (h2 : ∀ id b, foot y = some id → h' id = some b → b.own = true)
    (h3 : ∀ j b, h j = some b → foot (ys k) ≠ some j → h' j = some b) (h4 : foot y = foot (ys k) ∨ ∀ id, foot y = some id → h id = none) (h5 : Old h' E.es (xs k) (X k) y L) : FD E h0 h' v5 n xs X (upf ys k y) (upf F k L) gs := by
  refine ⟨?_, fun j hj => ?_⟩
  · have := fs.own.turn k (Objs.getA hk) (o' := .sl E.es y L []) h1 h2 h3 h4
    rwa [Objs.setA hk, upf_const] at this
  · by_cases e : j = k
    · subst e; rw [upf_self, upf_self]; exact h5
    · rw [upf_ne _ _ e, upf_ne _ _ e]
      exact (fs.old j hj).other (z := ys k) h3 (fs.own.ne (Objs.getA hj) (Objs.getA hk) e)
theorem FD.store (fs : FD E h0 h v5 n xs X ys F gs) (hk : k < n) {y : AVal} (hy : y.isCell = true) {K : AHeap → Prop} (hK : ∀ h', FD E h0 h' v5 n xs X ys F (upf gs k y) → K h') : A.st h (elp 1 v5 k 0) y K := by
  refine fs.own.st n Objs.getL (fills_get _ hk) (by omega) hy fun h' ho hb => hK h' ⟨?_, fun j hj => ?_⟩
  · rw [Objs.setL] at ho
    have e : (fills n fun j => [gs j]).set k ([gs k].set 0 y) = fills n fun j => [upf gs k y j] := by
      rw [fills_set]
      refine fills_congr fun j hj => ?_
      unfold upf
      split <;> rfl
    rwa [e] at ho
  · exact (fs.old j hj).other hb (fs.own.ne (Objs.getA hj) Objs.getL (by omega))
theorem FD.push (S : ElD C E Mk v) (fs : FD E h0 h v5 n xs X ys F gs) (hk : k < n) {cs : List AVal} (hcs : cs.length = E.es) (hb : ((F k).length + 1) * E.bytes ≤ 140737488355328) (hl : (F k).length + 1 ≤ maxLen) {K : AVal → AHeap → Prop}
    (hK : ∀ y h', FD E h0 h' v5 n xs X (upf ys k y) (upf F k (F k ++ [cs])) gs → K y h') : A.newO h (some cs) fun i h => A.appW h E.es E.bytes (ys k) (.sl i 0 0 1 E.es 1) K := fun i hi => by
  have fg := fs.grow (le_upd (blkOf cs) hi)
  refine (fg.yAt hk).appW2 (fg.own.ownAt k (Objs.getA hk)) (M := [cs]) (R' := []) (SlX.lit (upd_same ..) (by simpa using hcs) rfl (by simp) (by simp)) S.pos (by simpa using hb) (by simpa using hl) fun y h' h1 h2 h3 h4 h5 => ?_
  exact hK y h' (fg.turn hk h1 h2 h3 h4 (h5 _ _ (fg.old k hk)))
theorem ls_kp2 (hx : SlX h 1 x (fills n fun j => [xs j]) W) (hx' : SlX h' 1 x (fills n fun j => [xs j]) W) (hk : k < n) : Kp2 h h' (elp 1 x k 0) none := ⟨_, ls_ld hx hk, ls_ld hx' hk⟩

theorem dlat5 (S : ElD C E Mk v) (hx : SlX h0 1 x (fills n fun j => [xs j]) W) (fs : FD E h0 h v5 n xs X ys F gs) (hn : n ≤ 100000000) (hl : ∀ j, j < n → (X j).length ≤ 4611686018427380000)
    (hgs : ∀ j, j < n → gs j = ys j) (mX : ∀ j, j < n → MkAll Mk h0 j 0 (X j)) (mF : ∀ j i c, j < n → i < (X j).length → (F j)[i]? = some c → Mk h0 (j : Int) (i : Int) c) (lF : ∀ j, j < n → (X j).length ≤ (F j).length) (hq : ∀ h', h0.le h' → Q (.bool true) h') : LoopR (flatG.l15 E C Q x v5) [.int .i64 0] h := by
  refine LoopR.intro (fun t vs hh => ∃ k : Nat, k + t = n ∧ vs = [.int .i64 k] ∧ h.le hh) n ?_ ⟨0, by simp, by simp, AHeap.le_refl h⟩
  rintro Y t vs hh ⟨k, ht, rfl, hle⟩ hY
  have fs1 := fs.grow hle
  have hx' := hx.mono fs1.own.le
  simp -dsimp [ls_len hx']
  refine B.cond_bool (fun hb => ?_) (fun hb => ?_) <;> simp -dsimp at hb ⊢
  · refine LoopR.intro (fun t vs h2 => ∃ i : Nat, i + t = (X k).length ∧ vs = [.int .i64 i] ∧ h.le h2) (X k).length ?_ ⟨0, by simp, by simp, hle⟩
    rintro Z t' vs h3 ⟨i, hi, rfl, hle3⟩ hZ
    have f3 := fs.grow hle3
    have hx' := hx.mono f3.own.le
    have hold := (f3.old k hb).at_
    have hlk := hl k hb
    have hlx := hold.lenSl
    simp -dsimp [ls_idx hx' hb, ls_ld hx' hb, hlx]
    refine B.cond_bool (fun hc => ?_) (fun hc => ?_) <;> simp -dsimp at hc ⊢
    · have hyk := f3.yAt hb
      have hlF := lF k hb
      obtain ⟨c1, hc1⟩ := get_lt (L := X k) (k := i) hc
      obtain ⟨c2, hc2⟩ := get_lt (L := F k) (k := i) (by omega)
      have m1 := mX k hb i c1 hc1
      have m2 := mF k i c2 hb hc hc2
      rw [Nat.zero_add] at m1
      have e1 : V.idxS E.es (xs k) (.int .i64 (i : Int)) = some (elp E.es (xs k) i 0) := hold.idxN hc
      have e2 : V.idxS E.es (ys k) (.int .i64 (i : Int)) = some (elp E.es (ys k) i 0) := hyk.idxN (by omega)
      simp -dsimp only [ls_idx hx' hb, ls_ld hx' hb, e1, B.pv_some, B.ld_eq]
      refine S.ld hold hc1 ?_
      refine S.call _ _ _ _ fun c4 h4 l4 o4 mk4 => ?_
      have f4 := f3.grow o4.le
      have hx4 := hx.mono f4.own.le
      refine keepD2 (ls_kp2 hx' hx4 hb) (S.kpt hold (hold.mono o4.le) hc1) ?_
      refine S.eq (S.mono f4.own.le m1) (mk4 h4 o4.is) ?_
      have e3 := ls_ld f4.gAt hb
      rw [hgs k hb] at e3
      have hyk4 := f4.yAt hb
      simp -dsimp [ls_idx f4.gAt hb, e3, e2]
      refine S.ld hyk4 hc2 ?_
      refine S.call _ _ _ _ fun c5 h5 l5 o5 mk5 => ?_
      have f5 := f4.grow o5.le
      refine keepD2 (ls_kp2 f4.gAt f5.gAt hb) (S.kpt hyk4 (f5.yAt hb) hc2) ?_
      simp -dsimp
      refine S.eq (S.mono f5.own.le m2) (mk5 h5 o5.is) ?_
      simp -dsimp [inc64 (n := i) (by omega)]
      exact hZ ((X k).length - (i + 1)) _ _ (by omega) ⟨i + 1, by omega, by simp, AHeap.le_trans hle3 (AHeap.le_trans o4.le o5.le)⟩
    · simp -dsimp [inc64 (n := k) (by omega)]
      exact hY (n - (k + 1)) _ _ (by omega) ⟨k + 1, by omega, by simp, hle3⟩
  · exact hq _ fs1.own.le

theorem dlat4 (S : ElD C E Mk v) (hx : SlX h0 1 x (fills n fun j => [xs j]) W) (fs : FD E h0 h v5 n xs X ys F gs) (hn : n ≤ 100000000) (hl : ∀ j, j < n → (X j).length ≤ 4611686018427380000 ∧ ((X j).length + 64) * E.bytes ≤ 140737488355328)
    (hgs : ∀ j, j < n → gs j = ys j) (mX : ∀ j, j < n → MkAll Mk h0 j 0 (X j)) (mF : ∀ j i c, j < n → i < (X j).length → (F j)[i]? = some c → Mk h0 (j : Int) (i : Int) c) (lF : ∀ j, j < n → (X j).length ≤ (F j).length) (hq : ∀ h', h0.le h' → Q (.bool true) h') : LoopR (flatG.l40 E C Q x v5) [.int .i64 0] h := by
  refine LoopR.intro (fun t vs hh => ∃ (k : Nat) (ys gs : Nat → AVal) (F : Nat → List (List AVal)), k + t = n ∧ vs = [.int .i64 k] ∧ FD E h0 hh v5 n xs X ys F gs ∧ (∀ j, j < n → gs j = ys j) ∧ (∀ j i c, j < n → i < (X j).length → (F j)[i]? = some c → Mk h0 (j : Int) (i : Int) c) ∧ ∀ j, j < n → (X j).length ≤ (F j).length) n ?_
    ⟨0, ys, gs, F, by simp, by simp, fs, hgs, mF, lF⟩
  rintro Y t vs h ⟨k, ys, gs, F, ht, rfl, fs, hgs, mF, lF⟩ hY
  have hx' := hx.mono fs.own.le
  simp -dsimp [ls_len hx']
  refine B.cond_bool (fun hb => ?_) (fun hb => ?_) <;> simp -dsimp at hb ⊢
  · have hlk := hl k hb
    have h64 : 64 * E.bytes ≤ 140737488355328 := Nat.le_trans (Nat.mul_le_mul_right _ (by omega)) hlk.2
    refine ⟨S.pos, (Owns.start h).mks (es := E.es) S.zlen (by omega) (by omega) (by omega) (by omega) fun y h1 ho1 => ?_⟩
    simp only [List.nil_append] at ho1
    refine LoopR.intro (fun t vs hh => ∃ (i : Nat) (hb0 : AHeap) (M : List (List AVal)), i + t = 64 ∧ vs = [.int .i64 i] ∧ h.le hb0 ∧ M.length = i ∧ ∃ R, Owns hb0 hh [.sl E.es y (M ++ (fills 64 fun _ => E.z).drop i) R]) 64 ?_ ⟨0, h, [], by simp, by simp, AHeap.le_refl h, rfl, _, by simpa using ho1⟩
    rintro Z t' vs hh ⟨i, hb0, M, hi, rfl, hle0, hM, R, ho⟩ hZ
    simp -dsimp
    refine B.cond_bool (fun hc => ?_) (fun hc => ?_) <;> simp -dsimp at hc ⊢
    · have e1 : IntKind.i64.wrap ((k : Int) + n) = ((k + n : Nat) : Int) := by rw [wrap_i64 (by omega) (by omega)]; omega
      have hxx := hx'.mono (AHeap.le_trans hle0 ho.le)
      have hi64 : i < (fills 64 fun _ => E.z).length := by simp; omega
      have hlt : i < (M ++ (fills 64 fun _ => E.z).drop i).length := by simp; omega
      simp -dsimp only [ls_len hxx, B.pv_some, V.bin_add, e1]
      refine S.call _ _ _ _ fun c2 h2 l2 o2 mk2 => ?_
      obtain ⟨hb1, q1, q2, ho2, hat⟩ := ho.rebase o2
      simp -dsimp only [(ho2.slAt 0 rfl).idxN hlt, B.pv_some]
      have hget : (M ++ (fills 64 fun _ => E.z).drop i)[i]? = some (fills 64 fun _ => E.z)[i] := by
        rw [List.getElem?_append_right (by omega), hM, Nat.sub_self, List.getElem?_drop]; simp [hi64]
      refine S.st (ho2.slAt 0 rfl) (ho2.ownAt 0 rfl) hget (mk2 h2 o2.is) fun h3 h4 h5 h6 => ?_
      have hset : (M ++ (fills 64 fun _ => E.z).drop i).set i c2 = (M ++ [c2]) ++ (fills 64 fun _ => E.z).drop (i + 1) := by
        rw [List.set_append_right _ _ (by omega), hM, Nat.sub_self, List.drop_eq_getElem_cons hi64, List.set_cons_zero, List.append_assoc]; rfl
      rw [hset] at h4
      simp -dsimp [inc64 (n := i) (by omega)]
      exact hZ (64 - (i + 1)) _ _ (by omega) ⟨i + 1, hb1, M ++ [c2], by omega, by simp, AHeap.le_trans hle0 q1, by simp [hM], R, ho2.turn 0 rfl (o' := .sl E.es y _ R) h4 h5 h6 (.inl rfl)⟩
    · have hi64 : i = 64 := by omega
      have hd : (fills 64 fun _ => E.z).drop 64 = [] := List.drop_of_length_le (by simp)
      rw [hi64, hd, List.append_nil] at ho
      have fh := fs.grow (AHeap.le_trans hle0 ho.le)
      have hold := fh.old k hb
      have hxx := hx'.mono (AHeap.le_trans hle0 ho.le)
      simp -dsimp [ls_idx hxx hb, ls_ld hxx hb]
      refine hold.at_.appW2 (fun id b e1 e2 => ?_) (ho.slAt 0 rfl) S.pos (by rw [hM, hi64]; exact hlk.2) (by simp [maxLen, hM, hi64]; omega) fun y' h2 h3 h4 h5 h6 h7 => ?_
      · rcases hold.ft with e | ⟨e, _⟩
        · rw [e] at e1; cases e1
        · rw [e] at e1; exact fh.own.ownAt k (Objs.getA hb) id b e1 e2
      · have f2 : FD E h0 h2 v5 n xs X (upf ys k y') (upf F k (X k ++ M)) gs := fh.turn hb h3 h4 (fun j b e1 e2 => h5 j b e1 fun e3 => by
            rcases hold.ft with e | ⟨e, _⟩
            · rw [e] at e3; cases e3
            · rw [e] at e3; exact e2 e3) (by
            rcases h6 with e | e
            · rcases hold.ft with e' | ⟨e', _⟩
              · exact .inr fun id hid => by rw [e, e'] at hid; cases hid
              · exact .inl (e.trans e')
            · exact .inr e) (h7 _ _ (Old.refl hold.at_))
        simp -dsimp [ls_idx f2.gAt hb]
        refine f2.store hb h3.isCell fun h8 f3 => ?_
        simp -dsimp [inc64 (n := k) (by omega)]
        refine hY (n - (k + 1)) _ _ (by omega) ⟨k + 1, _, _, _, by omega, by simp, f3, fun j hj => ?_, fun j i c hj hi hc => ?_, fun j hj => ?_⟩
        · by_cases e : j = k
          · subst e; rw [upf_self, upf_self]
          · rw [upf_ne _ _ e, upf_ne _ _ e]; exact hgs j hj
        · by_cases e : j = k
          · subst e
            rw [upf_self, List.getElem?_append_left hi] at hc
            have := mX j hb i c hc
            rwa [Nat.zero_add] at this
          · rw [upf_ne _ _ e] at hc; exact mF j i c hj hi hc
        · by_cases e : j = k
          · subst e; rw [upf_self]; simp
          · rw [upf_ne _ _ e]; exact lF j hj
  · exact dlat5 S hx fs hn (fun j hj => (hl j hj).1) hgs mX mF lF hq

theorem dlat3 (S : ElD C E Mk v) (hx : SlX h0 1 x (fills n fun j => [xs j]) W) (fs : FD E h0 h v5 n xs X ys F gs) (hn : n ≤ 100000000) (hl : ∀ j, j < n → (X j).length ≤ 4611686018427380000 ∧ ((X j).length + 64) * E.bytes ≤ 140737488355328)
    (hgs : ∀ j, j < n → gs j = ys j) (mX : ∀ j, j < n → MkAll Mk h0 j 0 (X j)) (mF : ∀ j, j < n → MkAll Mk h0 j 0 (F j)) (lF : ∀ j, j < n → (F j).length = (X j).length + 64) (hq : ∀ h', h0.le h' → Q (.bool true) h') : LoopR (flatG.l59 E C Q x v5) [.int .i64 0] h := by
  refine LoopR.intro (fun t vs hh => ∃ k : Nat, k + t = n ∧ vs = [.int .i64 k] ∧ h.le hh) n ?_ ⟨0, by simp, by simp, AHeap.le_refl h⟩
  rintro Y t vs hh ⟨k, ht, rfl, hle⟩ hY
  have fs1 := fs.grow hle
  have hx' := hx.mono fs1.own.le
  simp -dsimp [ls_len hx']
  refine B.cond_bool (fun hb => ?_) (fun hb => ?_) <;> simp -dsimp at hb ⊢
  · refine LoopR.intro (fun t vs h2 => ∃ i : Nat, i + t = (X k).length + 64 ∧ vs = [.int .i64 i] ∧ h.le h2) ((X k).length + 64) ?_ ⟨0, by simp, by simp, hle⟩
    rintro Z t' vs h3 ⟨i, hi, rfl, hle3⟩ hZ
    have f3 := fs.grow hle3
    have hx' := hx.mono f3.own.le
    have hold := (f3.old k hb).at_
    have hlk := (hl k hb).1
    have hlx := hold.lenSl
    have hyk := f3.yAt hb
    have hly := hyk.lenSl
    rw [lF k hb] at hly
    have e3 := ls_ld f3.gAt hb
    rw [hgs k hb] at e3
    simp -dsimp [ls_idx f3.gAt hb, e3, hly]
    refine B.cond_bool (fun hc => ?_) (fun hc => ?_)
    · have hc : i < (X k).length + 64 := by simp at hc; omega
      have hlF := lF k hb
      obtain ⟨c2, hc2⟩ := get_lt (L := F k) (k := i) (by omega)
      have m2 := mF k hb i c2 hc2
      rw [Nat.zero_add] at m2
      have e2 : V.idxS E.es (ys k) (.int .i64 (i : Int)) = some (elp E.es (ys k) i 0) := hyk.idxN (by omega)
      simp -dsimp only [ls_idx f3.gAt hb, e3, e2, B.pv_some, B.ld_eq]
      refine S.ld hyk hc2 ?_
      refine S.call _ _ _ _ fun c4 h4 l4 o4 mk4 => ?_
      have f4 := f3.grow o4.le
      have hx4 := hx.mono f4.own.le
      refine keepD2 (ls_kp2 f3.gAt f4.gAt hb) (S.kpt hyk (f4.yAt hb) hc2) ?_
      refine S.eq (S.mono f4.own.le m2) (mk4 h4 o4.is) ?_
      by_cases hd : i < (X k).length
      · obtain ⟨c1, hc1⟩ := get_lt (L := X k) (k := i) hd
        have m1 := mX k hb i c1 hc1
        rw [Nat.zero_add] at m1
        have hold4 := (f4.old k hb).at_
        have e1 : V.idxS E.es (xs k) (.int .i64 (i : Int)) = some (elp E.es (xs k) i 0) := hold.idxN hd
        simp -dsimp [ls_idx hx4 hb, ls_ld hx4 hb, hlx, hd, e1]
        refine S.ld hold4 hc1 ?_
        refine S.call _ _ _ _ fun c5 h5 l5 o5 mk5 => ?_
        have f5 := f4.grow o5.le
        refine keepD2 (ls_kp2 hx4 (hx.mono f5.own.le) hb) (S.kpt hold4 ((f5.old k hb).at_) hc1) ?_
        simp -dsimp
        refine S.eq (S.mono f5.own.le m1) (mk5 h5 o5.is) ?_
        simp -dsimp [inc64 (n := i) (by omega)]
        exact hZ ((X k).length + 64 - (i + 1)) _ _ (by omega) ⟨i + 1, by omega, by simp, AHeap.le_trans hle3 (AHeap.le_trans o4.le o5.le)⟩
      · simp -dsimp [ls_idx hx4 hb, ls_ld hx4 hb, hlx, hd]
        simp -dsimp [inc64 (n := i) (by omega)]
        exact hZ ((X k).length + 64 - (i + 1)) _ _ (by omega) ⟨i + 1, by omega, by simp, AHeap.le_trans hle3 o4.le⟩
    · simp -dsimp [inc64 (n := k) (by omega)]
      exact hY (n - (k + 1)) _ _ (by omega) ⟨k + 1, by omega, by simp, hle3⟩
  · exact dlat4 S (hx := hx) (fs := fs1) hn hl hgs mX (fun j i c hj hi hc => by have := mF j hj i c hc; rwa [Nat.zero_add] at this) (fun j hj => by rw [lF j hj]; omega) hq

theorem dlat2 (S : ElD C E Mk v) (hx : SlX h0 1 x (fills n fun j => [xs j]) W) (fs : FD E h0 h v5 n xs X xs X gs) (hn : n ≤ 100000000) (hl : ∀ j, j < n → (X j).length ≤ 4611686018427380000 ∧ ((X j).length + 64) * E.bytes ≤ 140737488355328)
    (mX : ∀ j, j < n → MkAll Mk h0 j 0 (X j)) (hq : ∀ h', h0.le h' → Q (.bool true) h') : LoopR (flatG.l82 E C Q x v5) [.int .i64 0] h := by
  refine LoopR.intro (fun t vs hh => ∃ (k : Nat) (hb0 : AHeap) (ys gs : Nat → AVal) (F : Nat → List (List AVal)), k + t = n ∧ vs = [.int .i64 k] ∧ h0.le hb0 ∧ FD E hb0 hh v5 n xs X ys F gs ∧ (∀ j, j < k → gs j = ys j ∧ MkAll Mk hb0 j 0 (F j) ∧ (F j).length = (X j).length + 64) ∧ ∀ j, k ≤ j → ys j = xs j ∧ F j = X j) n ?_
    ⟨0, h0, _, gs, _, by simp, by simp, AHeap.le_refl h0, fs, by simp, fun j _ => ⟨rfl, rfl⟩⟩
  rintro Y t vs h ⟨k, hb0, ys, gs, F, ht, rfl, hle0, fs, hlo, hhi⟩ hY
  have hx0 := hx.mono hle0
  have hx' := hx0.mono fs.own.le
  simp -dsimp [ls_len hx']
  refine B.cond_bool (fun hb => ?_) (fun hb => ?_) <;> simp -dsimp at hb ⊢
  · have hk := hhi k (Nat.le_refl k)
    have hlk := hl k hb
    simp -dsimp [ls_idx hx' hb, ls_ld hx' hb]
    refine LoopR.intro (fun t vs hh => ∃ (i : Nat) (y : AVal) (hb1 : AHeap) (M : List (List AVal)), i + t = 64 ∧ vs = [y, .int .i64 i] ∧ hb0.le hb1 ∧ M.length = i ∧ MkAll Mk hb1 k (X k).length M ∧ FD E hb1 hh v5 n xs X (upf ys k y) (upf F k (X k ++ M)) gs) 64 ?_ ⟨0, xs k, hb0, [], by simp, by simp, AHeap.le_refl hb0, rfl, MkAll.nil _ _ _ _, ?_⟩
    · rintro Z t' vs hh ⟨i, y, hb1, M, hi, rfl, hle1, hM, mM, f1⟩ hZ
      have hx1 := (hx0.mono hle1).mono f1.own.le
      have hold := (f1.old k hb).at_
      have hlx := hold.lenSl
      have ey : upf ys k y k = y := upf_self ..
      simp -dsimp
      refine B.cond_bool (fun hc => ?_) (fun hc => ?_) <;> simp -dsimp at hc ⊢
      · have e1 : IntKind.i64.wrap (((X k).length : Int) + i) = (((X k).length + i : Nat) : Int) := by rw [wrap_i64 (by omega) (by omega)]; omega
        simp -dsimp only [ls_idx hx1 hb, ls_ld hx1 hb, hlx, B.pv_some, B.ld_eq, V.bin_add, e1]
        refine S.call _ _ _ _ fun c2 h2 l2 o2 mk2 => ?_
        obtain ⟨hb2, q1, q2, f2, hat⟩ := f1.rebase o2
        have mc := mk2 hb2 hat
        rw [S.new mc]
        have hbound : ((X k).length + i + 1) * E.bytes ≤ 140737488355328 := Nat.le_trans (Nat.mul_le_mul_right _ (by omega)) hlk.2
        have := f2.push S hb (cs := c2) (S.len mc) (by rw [upf_self, List.length_append, hM]; exact hbound) (by rw [upf_self, List.length_append, hM]; simp [maxLen]; omega) (K := fun v68 h => B.pv (V.bin .add (.int .i64 (i : Int)) (.int .i64 1)) fun v56 => Z [v68, v56] h) fun y' h3 f3 => ?_
        · rw [ey] at this; exact this
        · simp -dsimp [inc64 (n := i) (by omega)]
          refine hZ (64 - (i + 1)) _ _ (by omega) ⟨i + 1, y', hb2, M ++ [c2], by omega, by simp, AHeap.le_trans hle1 q1, by simp [hM], (mM.mono S q1).snoc (by rw [hM]; exact mc), ?_⟩
          rw [upf_upf, upf_upf, upf_self, List.append_assoc] at f3
          exact f3
      · have hi64 : i = 64 := by omega
        subst hi64
        simp -dsimp [ls_idx f1.gAt hb]
        have hyc := (f1.yAt hb).isCell
        rw [ey] at hyc
        refine f1.store hb hyc fun h2 f2 => ?_
        simp -dsimp [inc64 (n := k) (by omega)]
        have hle2 := AHeap.le_trans hle0 hle1
        refine hY (n - (k + 1)) _ _ (by omega) ⟨k + 1, hb1, _, _, _, by omega, by simp, hle2, f2, fun j hj => ?_, fun j hj => ?_⟩
        · by_cases e : j = k
          · subst e; rw [upf_self, upf_self, upf_self]
            refine ⟨rfl, ?_, by rw [List.length_append, hM]⟩
            refine ((mX j hb).mono S hle2).append ?_
            rw [Nat.zero_add]; exact mM
          · rw [upf_ne _ _ e, upf_ne _ _ e, upf_ne _ _ e]
            have := hlo j (by omega)
            exact ⟨this.1, this.2.1.mono S hle1, this.2.2⟩
        · rw [upf_ne _ _ (by omega), upf_ne _ _ (by omega)]; exact hhi j (by omega)
    · have e1 : upf ys k (xs k) = ys := by rw [← hk.1, upf_same]
      have e2 : upf F k (X k ++ []) = F := by rw [List.append_nil, ← hk.2, upf_same]
      rw [e1, e2]; exact fs
  · have : k = n := by omega
    subst this
    exact dlat3 S hx0 fs hn hl (fun j hj => (hlo j hj).1) (fun j hj => (mX j hj).mono S hle0) (fun j hj => (hlo j hj).2.1) (fun j hj => (hlo j hj).2.2) fun h' hle => hq h' (AHeap.le_trans hle0 hle)

/-- Lists of one's own, each in a block of its own, lie apart. -/
theorem dlatG_spec (S : ElD C E Mk v) {D R : Nat → List (List AVal)} (hx : SlX h0 1 x (fills n fun j => [xs j]) W) (ho : Owns h0 h (Objs E.es n xs D R)) (hn : n ≤ 100000000) (hl : ∀ j, j < n → (D j).length ≤ 4611686018427380000 ∧ ((D j).length + 64) * E.bytes ≤ 140737488355328)
    (hq : ∀ h', h0.le h' → Q (.bool true) h') : flatG E C x h Q := by
  refine LoopR.intro (fun t vs hh => ∃ (k : Nat) (hb0 : AHeap) (G : Nat → List (List AVal)), k + t = n ∧ vs = [.int .i64 k] ∧ h0.le hb0 ∧ Owns hb0 hh (Objs E.es n xs G R) ∧ (∀ j, j < k → MkAll Mk hb0 j 0 (G j) ∧ (G j).length = (D j).length) ∧ ∀ j, k ≤ j → G j = D j) n ?_
    ⟨0, h0, D, by simp, by simp, AHeap.le_refl h0, ho, by simp, fun j _ => rfl⟩
  rintro Y t vs h ⟨k, hb0, G, ht, rfl, hle0, ho, hlo, hhi⟩ hY
  have hx0 := hx.mono hle0
  have hx' := hx0.mono ho.le
  simp -dsimp [ls_len hx']
  refine B.cond_bool (fun hb => ?_) (fun hb => ?_) <;> simp -dsimp at hb ⊢
  · have hlk := (hl k hb).1
    have hgk := hhi k (Nat.le_refl k)
    refine LoopR.intro (fun t vs hh => ∃ (i : Nat) (hb1 : AHeap) (M : List (List AVal)), i + t = (D k).length ∧ vs = [.int .i64 i] ∧ hb0.le hb1 ∧ M.length = i ∧ MkAll Mk hb1 k 0 M ∧ Owns hb1 hh (Objs E.es n xs (upf G k (M ++ (D k).drop i)) R)) (D k).length ?_ ⟨0, hb0, [], by simp, by simp, AHeap.le_refl hb0, rfl, MkAll.nil _ _ _ _, ?_⟩
    · rintro Z t' vs hh ⟨i, hb1, M, hi, rfl, hle1, hM, mM, ho1⟩ hZ
      have hx1 := (hx0.mono hle1).mono ho1.le
      have hxk := ho1.slAt k (Objs.get hb)
      rw [upf_self] at hxk
      have hlx := hxk.lenSl
      have hll : (M ++ (D k).drop i).length = (D k).length := by simp; omega
      rw [hll] at hlx
      simp -dsimp [ls_idx hx1 hb, ls_ld hx1 hb, hlx]
      refine B.cond_bool (fun hc => ?_) (fun hc => ?_) <;> simp -dsimp at hc ⊢
      · have hlt : i < (M ++ (D k).drop i).length := by omega
        simp -dsimp only [ls_idx hx1 hb, ls_ld hx1 hb, B.pv_some, B.ld_eq]
        refine S.call _ _ _ _ fun c2 h2 l2 o2 mk2 => keepD1 (ls_kp2 hx1 (hx1.mono o2.le) hb) ?_
        obtain ⟨hb2, q1, q2, ho2, hat⟩ := ho1.rebase o2
        have hxk2 := ho2.slAt k (Objs.get hb)
        rw [upf_self] at hxk2
        simp -dsimp only [hxk2.idxN hlt, B.pv_some]
        have hget : (M ++ (D k).drop i)[i]? = some (D k)[i] := by
          rw [List.getElem?_append_right (by omega), hM, Nat.sub_self, List.getElem?_drop]; simp [hc]
        refine S.st hxk2 (ho2.ownAt k (Objs.get hb)) hget (mk2 h2 o2.is) fun h3 h4 h5 h6 => ?_
        have hset : (M ++ (D k).drop i).set i c2 = (M ++ [c2]) ++ (D k).drop (i + 1) := by
          rw [List.set_append_right _ _ (by omega), hM, Nat.sub_self, List.drop_eq_getElem_cons hc, List.set_cons_zero, List.append_assoc]; rfl
        rw [hset] at h4
        have h7 := ho2.turn k (Objs.get hb) (o' := .sl E.es (xs k) _ (R k)) h4 h5 h6 (.inl rfl)
        rw [Objs.set, upf_same, upf_same, upf_upf] at h7
        simp -dsimp [inc64 (n := i) (by omega)]
        exact hZ ((D k).length - (i + 1)) _ _ (by omega) ⟨i + 1, hb2, M ++ [c2], by omega, by simp, AHeap.le_trans hle1 q1, by simp [hM], (mM.mono S q1).snoc (by rw [Nat.zero_add, hM]; exact mk2 hb2 hat), h7⟩
      · have hie : i = (D k).length := by omega
        rw [hie, List.drop_length, List.append_nil] at ho1
        simp -dsimp [inc64 (n := k) (by omega)]
        refine hY (n - (k + 1)) _ _ (by omega) ⟨k + 1, hb1, _, by omega, by simp, AHeap.le_trans hle0 hle1, ho1, fun j hj => ?_, fun j hj => ?_⟩
        · by_cases e : j = k
          · subst e; rw [upf_self]; exact ⟨mM, by omega⟩
          · rw [upf_ne _ _ e]
            have := hlo j (by omega)
            exact ⟨this.1.mono S hle1, this.2⟩
        · rw [upf_ne _ _ (by omega)]; exact hhi j (by omega)
    · simp only [List.nil_append, List.drop_zero]
      rw [← hgk, upf_same]; exact ho
  · have : k = n := by omega
    subst this
    simp -dsimp only [ls_len hx', B.pv_some]
    refine ⟨Nat.one_pos, ?_⟩
    refine ho.mks (bytes := 24) (es := 1) (n := k) (c := k) (z := [.nils]) rfl (by omega) (by omega) (by omega) (by omega) fun y h1 ho1 => ?_
    have e1 : ((k : Int)).toNat = k := by simp
    rw [e1, Nat.sub_self, fills_zero] at ho1
    have ho2 := ho1.cutR
    exact dlat2 S hx0 ⟨ho2, fun j hj => Old.refl (ho2.slAt j (Objs.getA hj))⟩ hn (fun j hj => by rw [(hlo j hj).2]; exact hl j hj) (fun j hj => (hlo j hj).1) fun h' hle => hq h' (AHeap.le_trans hle0 hle)
end
end Go.Ab

/- What is proved: contracts of what the statements share about answers; and of the bag, in which all lists are held that must lie apart. No conditions. -/
set_option linter.unusedVariables false
set_option linter.unusedSimpArgs false
set_option maxRecDepth 100000
namespace Go.Ab
variable {C : CSem} {N : Nat → Nat}

/-! Answers. -/
structure TellLent (h : AHeap) (t : TellP) (x y : AVal) : Prop where
  lots : SlX h 6 x (t.Lots.map Lot.cs) marksLot
  uses : SlX h 3 y (t.Uses.map Use.cs) marksUse
theorem TellLent.at_ {h : AHeap} {t : TellP} {x y : AVal} (a : TellLent h t x y) : TellAt h t x y := ⟨⟨_, a.lots⟩, ⟨_, a.uses⟩⟩
theorem TellLent.mono {h H : AHeap} {t : TellP} {x y : AVal} (a : TellLent h t x y) (hle : h.le H) : TellLent H t x y := ⟨a.lots.mono hle, a.uses.mono hle⟩
end Go.Ab

/- What is proved: contracts of the bag, in which all lists are held that must lie apart. No conditions. -/
set_option linter.unusedVariables false
set_option linter.unusedSimpArgs false
set_option maxRecDepth 100000
namespace Go.Ab
variable {C : CSem} {N : Nat → Nat}

abbrev sing (v : AVal) : List AVal := [v]
/-- A bag at id: B: what it holds, by kinds. -/
def BagAt (h hh : AHeap) (id : Nat) (B : Nat → List AVal) : Prop := ∃ xs : Nat → AVal, Owns h hh (Objs 1 23 xs (fun i => (B i).map sing) (fun _ => []) ++ [.box (.ptr id 0 0) (fill 23 xs)])
theorem Owns.nilObjs {h0 h : AHeap} {l : List Ob} (ho : Owns h0 h l) (es n : Nat) : Owns h0 h (Objs es n (fun _ => .nils) (fun _ => []) (fun _ => []) ++ l) := by
  have mem : ∀ o ∈ Objs es n (fun _ => AVal.nils) (fun _ => []) (fun _ => []), o = .sl es .nils [] [] := fun o hm => by
    obtain ⟨j, _, rfl⟩ := List.mem_map.1 hm; rfl
  refine ⟨ho.le, fun o hm => ?_, fun o hm => ?_, List.pairwise_append.2 ⟨?_, ho.apart, fun a ha b _ id hf => by rw [mem a ha] at hf; cases hf⟩⟩
  · rcases List.mem_append.1 hm with hm | hm
    · rw [mem o hm]; exact SlX.nils h es
    · exact ho.is o hm
  · rcases List.mem_append.1 hm with hm | hm
    · intro id hf; rw [mem o hm] at hf; cases hf
    · exact ho.own o hm
  · rw [List.pairwise_iff_forall_sublist]
    intro a b hs id hf
    rw [mem a (hs.subset (by simp))] at hf; cases hf
theorem BagAt.start {h : AHeap} {id : Nat} (hid : h id = none) : BagAt h (upd h id (blkOf (fill 23 fun _ => .nils))) id fun _ => [] := by
  refine ⟨fun _ => .nils, ?_⟩
  have := ((Owns.start h).newBox hid (fill 23 fun _ => .nils)).nilObjs 1 23
  simpa using this
def putG (k : Nat) (v0 v1 : AVal) (h : AHeap) (Q : AVal → AHeap → Prop) : Prop :=
  B.nilCheck v0 fun v6 =>
    B.pv (V.fieldAddr k v6) fun v7 =>
    B.ld h v7 fun v8 =>
    B.newO h (fillL [(0, none, v1)] (repL 1 [.nils])) fun i10 h =>
    B.appW h 1 24 v8 (.sl i10 0 0 1 1 1) fun v11 h =>
    B.nilCheck v0 fun v12 =>
    B.pv (V.fieldAddr k v12) fun v13 =>
    B.st h v13 v11 fun h =>
    Q (.tup []) h
theorem putG_spec {k : Nat} (hk : k < 23) {h hh : AHeap} {id : Nat} {B : Nat → List AVal} {y : AVal} {Q : AVal → AHeap → Prop} (hb : BagAt h hh id B) (hy : y.isCell = true) (hl : (B k).length ≤ 100000000) (hq : ∀ h', BagAt h h' id (upf B k (B k ++ [y])) → Q (.tup []) h') : putG k (.ptr id 0 0) y hh Q := by
  obtain ⟨xs, ho⟩ := hb
  obtain ⟨id', e, hbx⟩ := ho.boxAt 23 Objs.getL
  cases e
  have e1 : A.ldv hh (.ptr id 0 k) = some (xs k) := by rw [ldv_at hbx, fill_get _ hk]
  have hrep : repL 1 [AVal.nils] = [AVal.nils] := rfl
  simp -dsimp [putG, e1, hrep, hy]
  refine ho.push k (Objs.getA hk) rfl (by omega) (by simp; omega) (by simp [maxLen]; omega) fun x' h1 ho1 _ => ?_
  rw [Objs.setA hk, upf_const] at ho1
  have hcx := (ho1.slAt k (Objs.getA hk)).isCell
  rw [upf_self] at hcx
  simp -dsimp
  refine ho1.boxSt 23 Objs.getL hcx (by simpa using hk) fun h2 ho2 _ => ?_
  rw [Objs.setL, fill_set] at ho2
  refine hq h2 ⟨upf xs k x', ?_⟩
  have e2 : upf (fun i => (B i).map sing) k ((B k).map sing ++ [[y]]) = fun i => (upf B k (B k ++ [y]) i).map sing := by
    funext i; unfold upf; split
    · rename_i e; subst e; simp
    · rfl
  rw [e2] at ho2
  exact ho2

def bagFull (i : Nat) : Bool := [false, false, false, true, true, true, true, true, true, true, false, true, false, true, false, false, false, false, false, false, false, false, false].getD i false
/-- A bag that is there at first. -/
structure BagIs (h0 : AHeap) (id : Nat) (B : Nat → List AVal) (D : Nat → Nat → List (List AVal)) (xs : Nat → AVal) : Prop where
  box : h0 id = some (blkOf (fill 23 xs))
  is : ∀ i, i < 23 → SlX h0 1 (xs i) ((B i).map sing) []
  none : ∀ i, i < 23 → bagFull i = false → B i = []
  n_le : ∀ i, i < 23 → (B i).length ≤ 100000000
  len_le : ∀ i, i < 23 → ∀ j, j < (B i).length → (D i j).length ≤ 100000000
section
variable {h0 h : AHeap} {id : Nat} {B : Nat → List AVal} {D R : Nat → Nat → List (List AVal)} {xs : Nat → AVal} {Q : AVal → AHeap → Prop}
theorem BagIs.ld (hb : BagIs h0 id B D xs) (hle : h0.le h) {i : Nat} (hi : i < 23) : A.ldv h (.ptr id 0 i) = some (xs i) := by
  rw [ldv_at (hle _ _ hb.box), fill_get _ hi]
end
end Go.Ab

/- What is proved: contracts of the statements' question whether lists lie apart. No conditions. -/
set_option linter.unusedVariables false
set_option linter.unusedSimpArgs false
set_option maxRecDepth 100000
namespace Go.Ab
variable {C : CSem} {N : Nat → Nat}

def PutSpec (C : CSem) (k g : Nat) : Prop := ∀ (h hh : AHeap) (id : Nat) (B : Nat → List AVal) (y : AVal) (Q : AVal → AHeap → Prop), BagAt h hh id B → y.isCell = true → (B k).length ≤ 100000000 → (∀ h', BagAt h h' id (upf B k (B k ++ [y])) → Q (.tup []) h') → C g [.ptr id 0 0, y] hh Q
@[simp] def apartG.k1 (C : CSem) (fp fa : Nat) (Q : AVal → AHeap → Prop) (Y1 : List AVal → AHeap → Prop) (v0 v3 v4 : AVal) (h : AHeap) : Prop :=
  B.pv (V.lenSl v0) fun v9 =>
    B.pv (V.bin .lss v4 v9) fun v10 =>
    B.cond v10
    (B.pv (V.idxS 1 v0 v4) fun v16 =>
    B.ld h v16 fun v17 =>
    B.call C fp [v3, v17] h fun v18 h =>
    B.pv (V.bin .add v4 (.int .i64 1)) fun v12 =>
    Y1 [v12] h)
    (B.call C fa [v3] h fun v20 h =>
    Q v20 h)
@[simp] def apartG.l2 (C : CSem) (fp fa : Nat) (Q : AVal → AHeap → Prop) (v0 v3 : AVal) : List AVal → AHeap → (List AVal → AHeap → Prop) → Prop
  | [v4], h, Y1 => apartG.k1 C fp fa Q Y1 v0 v3 v4 h
  | _, _, _ => False
def apartG (C : CSem) (fp fa : Nat) (v0 : AVal) (h : AHeap) (Q : AVal → AHeap → Prop) : Prop :=
  B.pv (A.bld [] [.nils, .nils, .nils, .nils, .nils, .nils, .nils, .nils, .nils, .nils, .nils, .nils, .nils, .nils, .nils, .nils, .nils, .nils, .nils, .nils, .nils, .nils, .nils]) fun v5 =>
    B.newO h (A.cellsN 23 v5) fun i6 h =>
    LoopR (apartG.l2 C fp fa Q v0 (.ptr i6 0 0)) [(.int .i64 0)] h
theorem BagAt.le {h hh : AHeap} {id : Nat} {B : Nat → List AVal} (hb : BagAt h hh id B) : h.le hh := by obtain ⟨_, ho⟩ := hb; exact ho.le
@[simp] theorem Objs_zero {es : Nat} {xs : Nat → AVal} {D R : Nat → List (List AVal)} : Objs es 0 xs D R = [] := rfl

theorem kit_bag_putBytes.spec (i : kit_bag_putBytes.Imp C N) : PutSpec C 4 (N 63) := fun h hh id B y Q hb hy hl hq => i _ _ hh Q (putG_spec (k := 4) (by omega) hb hy hl fun h' hb' => dn_same (hq h' hb'))
abbrev TellC := TellP × AVal × AVal
@[simp] def TellC.cs (a : TellC) : List AVal := a.1.cs a.2.1 a.2.2
end Go.Ab

/- What is proved: contracts: bytes, rows, turns of one's own lie apart; the bag, for the kinds that are asked for. No conditions. -/
set_option linter.unusedVariables false
set_option linter.unusedSimpArgs false
set_option maxRecDepth 100000
namespace Go.Ab
variable {C : CSem} {N : Nat → Nat}
structure LL.okL (lim : Nat) (t : LL) (h0 : AHeap) : Prop where
  is : SlX h0 1 t.x (fills t.n fun j => [t.xs j]) t.W
  n_le : t.n ≤ 100000000
  len_le : ∀ j, j < t.n → (t.D j).length ≤ lim
def FlatSpecL (C : CSem) (es lim g : Nat) : Prop := ∀ (t : LL) (h0 h : AHeap) (Q : AVal → AHeap → Prop), t.okL lim h0 → Owns h0 h (t.obs es) → (∀ h', h0.le h' → Q (.bool true) h') → C g [t.x] h Q
theorem elDF {T Ad : Type} [DecidableEq T] (K : DK T Ad) {f g : Nat} {mk : Int → Int → T} (hmk : ∀ k i, K.ok (mk k i)) (s1 : MarkE K mk C f) (s2 : SameE K C g) :
    ElD C (opsD C K.n K.bytes K.z f g) (fun h k i c => ∃ a, c = K.cells a ∧ K.at_ h (mk k i) a) AVal.agg where
  pos := K.pos
  zlen := K.zlen
  len := by rintro h k i c ⟨a, rfl, _⟩; exact K.len a
  mono := by rintro h h' k i c hle ⟨a, rfl, ha⟩; exact ⟨a, rfl, K.mono hle ha⟩
  new := by rintro h k i c ⟨a, rfl, _⟩; exact fill_agg K a
  call k i h Q hq := s1 k i h Q fun a h' o => hq _ h' _ o fun h1 ha => ⟨a, rfl, K.ofObs (hmk k i) ha⟩
  ld hs hc hk := by
    simp only [opsD, B.ldn_eq] at hs ⊢
    rw [hs.elem hc]; exact hk
  kpt hs hs' hc := ⟨_, hs.elem hc, hs'.elem hc⟩
  st := by
    rintro h x L R i c c0 k j Q hs hown hc0 ⟨a, rfl, ha⟩ hk
    have hs' : SlX h K.n x L R := hs
    refine hs'.stn hown hc0 (K.len a) (by simp) ?_
    have hcl : c0.length = K.n := hs'.len c0 (List.mem_append_left _ (List.mem_of_getElem? hc0))
    have e : c0.take 0 ++ K.cells a ++ c0.drop (0 + K.n) = K.cells a := by simp [hcl]
    rw [e]; exact hk
  eq := by
    rintro h k i c c' Q ⟨a, rfl, ha⟩ ⟨b, rfl, hb⟩ hk
    refine s2 _ _ _ _ _ _ ha hb ?_
    rw [decide_eq_true rfl]; exact hk
theorem elDB {f : Nat} (s1 : ∀ (k i : Int) (h : AHeap) (Q : AVal → AHeap → Prop), Q (.int .u8 ((markByte k i).toNat : Int)) h → C f [.int .i64 k, .int .i64 i] h Q) : ElD C (opsS 1 (.int .u8 0) f) (fun _ k i c => c = bc (markByte k i)) (fun c => c.headD .nils) where
  pos := Nat.one_pos
  zlen := rfl
  len := by rintro h k i c rfl; rfl
  mono := fun _ h => h
  new := by
    rintro h k i c rfl
    show fillL [(0, none, AVal.int .u8 ((markByte k i).toNat : Int))] (repL 1 [.int .u8 0]) = some [AVal.int .u8 ((markByte k i).toNat : Int)]
    simp [repL]
  call k i h Q hq := s1 k i h Q (hq (bc (markByte k i)) h [] (Owns.start h) fun _ _ => rfl)
  ld {h x L R i c K} hs hc hk := by
    have hs' : SlX h 1 x L R := hs
    have hcl : c.length = 1 := hs'.len c (List.mem_append_left _ (List.mem_of_getElem? hc))
    obtain ⟨u, rfl⟩ := List.length_eq_one_iff.1 hcl
    simp only [opsS, B.ld_eq] at hs ⊢
    rw [hs'.cell hc]; exact hk
  kpt {h h' x L R i c} hs hs2 hc := by
    have hs' : SlX h 1 x L R := hs
    have hcl : c.length = 1 := hs'.len c (List.mem_append_left _ (List.mem_of_getElem? hc))
    obtain ⟨u, rfl⟩ := List.length_eq_one_iff.1 hcl
    exact ⟨_, hs'.cell hc, SlX.cell hs2 hc⟩
  st := by
    rintro h x L R i c c0 k j Q hs hown hc0 rfl hk
    have hs' : SlX h 1 x L R := hs
    have hcl : c0.length = 1 := hs'.len c0 (List.mem_append_left _ (List.mem_of_getElem? hc0))
    obtain ⟨u, rfl⟩ := List.length_eq_one_iff.1 hcl
    exact hs'.st hown hc0 (by omega) rfl hk
  eq := by
    rintro h k i c c' Q rfl rfl hk
    show B.pv (V.bin .eql (AVal.int .u8 ((markByte k i).toNat : Int)) (AVal.int .u8 ((markByte k i).toNat : Int))) fun v => Q v h
    simp only [V.bin_eql, decide_true, B.pv_some]; exact hk
theorem kit_flatBytes.spl (i : kit_flatBytes.Imp C N) (s1 : kit_markByte.Spec C N) : FlatSpecL C 1 140737488351232 (N 84) := fun t h0 h Q ht ho hq =>
  i t.x h Q (dlatG_spec (elDB s1) ht.is ho ht.n_le (fun j hj => by have := ht.len_le j hj; exact ⟨by omega, by simp [opsS]; omega⟩) fun h' hle => dn_same (hq h' hle))
theorem flatD_spec {T Ad : Type} [DecidableEq T] (K : DK T Ad) {f g : Nat} {mk : Int → Int → T} (hmk : ∀ k i, K.ok (mk k i)) (s1 : MarkE K mk C f) (s2 : SameE K C g) (t : LL) {h0 h : AHeap} {Q : AVal → AHeap → Prop} (ht : t.okL 100000000 h0) (ho : Owns h0 h (t.obs K.n)) (hq : ∀ h', h0.le h' → Q (.bool true) h') :
    flatG (opsD C K.n K.bytes K.z f g) C t.x h Q := by
  refine dlatG_spec (elDF K hmk s1 s2) ht.is ho ht.n_le (fun j hj => ?_) hq
  have := ht.len_le j hj
  have h2 := Nat.mul_le_mul (show (t.D j).length + 64 ≤ 100000064 by omega) K.small
  exact ⟨by omega, by show ((t.D j).length + 64) * K.bytes ≤ _; omega⟩
theorem kit_flatRows.spec (i : kit_flatRows.Imp C N) (s1 : kit_markRow.Spec C N) (s2 : kit_SameRow.Spec C N) : FlatSpecL C 2 100000000 (N 95) := fun t h0 h Q ht ho hq =>
  i t.x h Q (flatD_spec rowK markRow_ok s1 s2 t ht ho fun h' hle => dn_same (hq h' hle))
theorem kit_flatTurns.spec (i : kit_flatTurns.Imp C N) (s1 : kit_markTurn.Spec C N) (s2 : kit_SameTurn.Spec C N) : FlatSpecL C 3 100000000 (N 96) := fun t h0 h Q ht ho hq =>
  i t.x h Q (flatD_spec turnK markTurn_ok s1 s2 t ht ho fun h' hle => dn_same (hq h' hle))

/-! The bag, for the kinds that are asked for: how many cells, how long. -/
structure BagK where
  es : Nat → Nat
  lim : Nat → Nat
  full : Nat → Bool
/-- Lists of a kind: a slice, its elements. -/
abbrev LK := List (AVal × List (List AVal))
def obK (es : Nat) (q : AVal × List (List AVal)) : Ob := .sl es q.1 q.2 []
def LK.ll (l : LK) (x : AVal) : LL := ⟨x, l.length, fun j => (l.getD j (.nils, [])).1, fun j => (l.getD j (.nils, [])).2, fun _ => [], []⟩
theorem LK.obs (l : LK) (x : AVal) (es : Nat) : (l.ll x).obs es = l.map (obK es) := by
  apply List.ext_getElem?
  intro j
  unfold LL.obs LK.ll
  by_cases hj : j < l.length
  · rw [Objs.get hj, List.getElem?_map, List.getElem?_eq_getElem hj]
    simp [obK, hj]
  · rw [List.getElem?_eq_none (by simp; omega), List.getElem?_eq_none (by simp; omega)]
theorem LK.fills (l : LK) : fills l.length (fun j => [(l.getD j (.nils, [])).1]) = l.map fun q => [q.1] := by
  apply List.ext_getElem?
  intro j
  by_cases hj : j < l.length
  · rw [fills_get _ hj, List.getElem?_map, List.getElem?_eq_getElem hj]; simp [hj]
  · rw [List.getElem?_eq_none (by simp; omega), List.getElem?_eq_none (by simp; omega)]
def KindOk (C : CSem) (b : BagK) (i g : Nat) : Prop := (b.full i = true → FlatSpecL C (b.es i) (b.lim i) g) ∧ (b.full i = false → FlatNil C g)
structure BagL (b : BagK) (h0 : AHeap) (id : Nat) (L : Nat → LK) (xs : Nat → AVal) : Prop where
  box : h0 id = some (blkOf (fill 23 xs))
  is : ∀ i, i < 23 → SlX h0 1 (xs i) ((L i).map fun q => [q.1]) []
  none : ∀ i, i < 23 → b.full i = false → L i = []
  n_le : ∀ i, i < 23 → (L i).length ≤ 100000000
  len_le : ∀ i, i < 23 → ∀ q ∈ L i, q.2.length ≤ b.lim i
def bagOb (b : BagK) (L : Nat → LK) (i n : Nat) : List Ob := (List.range' i n).flatMap fun i => (L i).map (obK (b.es i))
theorem bagOb_succ (b : BagK) (L : Nat → LK) (i n : Nat) : bagOb b L i (n + 1) = (L i).map (obK (b.es i)) ++ bagOb b L (i + 1) n := by
  simp [bagOb, List.range'_succ]
section
variable {b : BagK} {h0 h : AHeap} {id : Nat} {L : Nat → LK} {xs : Nat → AVal} {Q : AVal → AHeap → Prop}
theorem BagL.ld (hb : BagL b h0 id L xs) (hle : h0.le h) {i : Nat} (hi : i < 23) : A.ldv h (.ptr id 0 i) = some (xs i) := by
  rw [ldv_at (hle _ _ hb.box), fill_get _ hi]
theorem kindUse {g : Nat} (i : Nat) (s : KindOk C b i g) (hb : BagL b h0 id L xs) (n : Nat) (hi : i < 23) (ho : Owns h0 h (bagOb b L i (n + 1))) (hq : ∀ h', Owns h0 h' (bagOb b L (i + 1) n) → Q (.bool true) h') : C g [xs i] h Q := by
  rw [bagOb_succ] at ho
  cases hf : b.full i with
  | true =>
    obtain ⟨q1, q2⟩ := (ho.perm List.perm_append_comm).out
    have hx := (hb.is i hi).mono q1.le
    rw [← LK.fills] at hx
    rw [← LK.obs (L i) (xs i)] at q1 q2
    refine s.1 hf ((L i).ll (xs i)) _ h Q ⟨by rw [← LK.obs (L i) (xs i)] at hx; exact hx, hb.n_le i hi, fun j hj => ?_⟩ q2 fun h' hle => hq h' (q1.grow hle)
    have hj' : j < (L i).length := hj
    show ((L i).getD j (.nils, [])).2.length ≤ _
    rw [List.getD_eq_getElem?_getD, List.getElem?_eq_getElem hj']
    exact hb.len_le i hi _ (List.getElem_mem hj')
  | false =>
    have e := hb.none i hi hf
    have hx := hb.is i hi
    rw [e] at hx ho
    simp only [List.map_nil, List.nil_append] at hx ho
    exact s.2 hf (xs i) [] h h Q (hx.mono ho.le) (AHeap.le_refl h) fun h' hle => hq h' (ho.grow hle)
end
def ApartK (C : CSem) (b : BagK) (g : Nat) : Prop := ∀ (id : Nat) (L : Nat → LK) (xs : Nat → AVal) (h0 h : AHeap) (Q : AVal → AHeap → Prop), BagL b h0 id L xs → Owns h0 h (bagOb b L 0 23) → (∀ h', h0.le h' → Q (.bool true) h') → C g [.ptr id 0 0] h Q
theorem bag_apartK (i : kit_bag_apart.Imp C N) (b : BagK) (f0 : KindOk C b 0 (N 80)) (f1 : KindOk C b 1 (N 81)) (f2 : KindOk C b 2 (N 82)) (f3 : KindOk C b 3 (N 83)) (f4 : KindOk C b 4 (N 84)) (f5 : KindOk C b 5 (N 85)) (f6 : KindOk C b 6 (N 86)) (f7 : KindOk C b 7 (N 87)) (f8 : KindOk C b 8 (N 88))
    (f9 : KindOk C b 9 (N 89)) (f10 : KindOk C b 10 (N 90)) (f11 : KindOk C b 11 (N 91)) (f12 : KindOk C b 12 (N 92)) (f13 : KindOk C b 13 (N 93)) (f14 : KindOk C b 14 (N 94)) (f15 : KindOk C b 15 (N 95)) (f16 : KindOk C b 16 (N 96)) (f17 : KindOk C b 17 (N 97)) (f18 : KindOk C b 18 (N 98)) (f19 : KindOk C b 19 (N 99))
    (f20 : KindOk C b 20 (N 100)) (f21 : KindOk C b 21 (N 101)) (f22 : KindOk C b 22 (N 102)) : ApartK C b (N 62) := by
  intro id L xs h0 h Q hb ho hq
  apply i
  simp -dsimp [hb.ld ho.le (i := 0) (by omega)]
  refine kindUse 0 f0 hb 22 (by omega) ho fun h ho => ?_
  simp -dsimp [hb.ld ho.le (i := 1) (by omega)]
  refine kindUse 1 f1 hb 21 (by omega) ho fun h ho => ?_
  simp -dsimp [hb.ld ho.le (i := 2) (by omega)]
  refine kindUse 2 f2 hb 20 (by omega) ho fun h ho => ?_
  simp -dsimp [hb.ld ho.le (i := 3) (by omega)]
  refine kindUse 3 f3 hb 19 (by omega) ho fun h ho => ?_
  simp -dsimp [hb.ld ho.le (i := 4) (by omega)]
  refine kindUse 4 f4 hb 18 (by omega) ho fun h ho => ?_
  simp -dsimp [hb.ld ho.le (i := 5) (by omega)]
  refine kindUse 5 f5 hb 17 (by omega) ho fun h ho => ?_
  simp -dsimp [hb.ld ho.le (i := 6) (by omega)]
  refine kindUse 6 f6 hb 16 (by omega) ho fun h ho => ?_
  simp -dsimp [hb.ld ho.le (i := 7) (by omega)]
  refine kindUse 7 f7 hb 15 (by omega) ho fun h ho => ?_
  simp -dsimp [hb.ld ho.le (i := 8) (by omega)]
  refine kindUse 8 f8 hb 14 (by omega) ho fun h ho => ?_
  simp -dsimp [hb.ld ho.le (i := 9) (by omega)]
  refine kindUse 9 f9 hb 13 (by omega) ho fun h ho => ?_
  simp -dsimp [hb.ld ho.le (i := 10) (by omega)]
  refine kindUse 10 f10 hb 12 (by omega) ho fun h ho => ?_
  simp -dsimp [hb.ld ho.le (i := 11) (by omega)]
  refine kindUse 11 f11 hb 11 (by omega) ho fun h ho => ?_
  simp -dsimp [hb.ld ho.le (i := 12) (by omega)]
  refine kindUse 12 f12 hb 10 (by omega) ho fun h ho => ?_
  simp -dsimp [hb.ld ho.le (i := 13) (by omega)]
  refine kindUse 13 f13 hb 9 (by omega) ho fun h ho => ?_
  simp -dsimp [hb.ld ho.le (i := 14) (by omega)]
  refine kindUse 14 f14 hb 8 (by omega) ho fun h ho => ?_
  simp -dsimp [hb.ld ho.le (i := 15) (by omega)]
  refine kindUse 15 f15 hb 7 (by omega) ho fun h ho => ?_
  simp -dsimp [hb.ld ho.le (i := 16) (by omega)]
  refine kindUse 16 f16 hb 6 (by omega) ho fun h ho => ?_
  simp -dsimp [hb.ld ho.le (i := 17) (by omega)]
  refine kindUse 17 f17 hb 5 (by omega) ho fun h ho => ?_
  simp -dsimp [hb.ld ho.le (i := 18) (by omega)]
  refine kindUse 18 f18 hb 4 (by omega) ho fun h ho => ?_
  simp -dsimp [hb.ld ho.le (i := 19) (by omega)]
  refine kindUse 19 f19 hb 3 (by omega) ho fun h ho => ?_
  simp -dsimp [hb.ld ho.le (i := 20) (by omega)]
  refine kindUse 20 f20 hb 2 (by omega) ho fun h ho => ?_
  simp -dsimp [hb.ld ho.le (i := 21) (by omega)]
  refine kindUse 21 f21 hb 1 (by omega) ho fun h ho => ?_
  simp -dsimp [hb.ld ho.le (i := 22) (by omega)]
  refine kindUse 22 f22 hb 0 (by omega) ho fun h ho => ?_
  try simp -dsimp
  exact dn_same (hq _ ho.le)
end Go.Ab

/- What is proved: contracts: lists of rows, of turns, with all that they lead to, lie apart. No conditions. -/
set_option linter.unusedVariables false
set_option linter.unusedSimpArgs false
set_option maxRecDepth 100000
namespace Go.Ab
variable {C : CSem} {N : Nat → Nat}
@[simp] def putD.k1 (C : CSem) (n f : Nat) (Q : AVal → AHeap → Prop) (Y1 : List AVal → AHeap → Prop) (v0 v1 v4 : AVal) (h : AHeap) : Prop :=
  B.pv (V.lenSl v1) fun v17 =>
    B.pv (V.bin .lss v4 v17) fun v18 =>
    B.cond v18
    (B.pv (V.idxS n v1 v4) fun v24 =>
    B.ldn h v24 n fun v25 =>
    B.call C f [v0, v25] h fun v26 h =>
    B.pv (V.bin .add v4 (.int .i64 1)) fun v20 =>
    Y1 [v20] h)
    (Q (.tup []) h)
@[simp] def putD.l2 (C : CSem) (n f : Nat) (Q : AVal → AHeap → Prop) (v0 v1 : AVal) : List AVal → AHeap → (List AVal → AHeap → Prop) → Prop
  | [v4], h, Y1 => putD.k1 C n f Q Y1 v0 v1 v4 h
  | _, _, _ => False
def putD (C : CSem) (k n f : Nat) (v0 v1 : AVal) (h : AHeap) (Q : AVal → AHeap → Prop) : Prop := putG k v0 v1 h fun _ h => LoopR (putD.l2 C n f Q v0 v1) [(.int .i64 0)] h
section
variable {T Ad : Type} {K : DK T Ad} {inn : T → Ad → LK}
abbrev inns (inn : T → Ad → LK) (P : List (T × Ad)) : LK := P.flatMap fun p => inn p.1 p.2
def OneSpec (K : DK T Ad) (inn : T → Ad → LK) (C : CSem) (g : Nat) : Prop := ∀ (h hh : AHeap) (id : Nat) (L : Nat → List AVal) (t : T) (a : Ad) (Q : AVal → AHeap → Prop), BagAt h hh id L → K.at_ hh t a → (L 4).length + (inn t a).length ≤ 100000000 →
  (∀ h', BagAt h h' id (upf L 4 (L 4 ++ (inn t a).map (·.1))) → Q (.tup []) h') → C g [.ptr id 0 0, .agg (K.cells a)] hh Q
theorem putD_spec {k f : Nat} (hk : k < 23) (hk4 : k ≠ 4) (s1 : OneSpec K inn C f) {h hh : AHeap} {id : Nat} {L : Nat → List AVal} {y : AVal} {P : List (T × Ad)} {R : List (List AVal)} {Q : AVal → AHeap → Prop} (hb : BagAt h hh id L) (hy : SlX h K.n y (P.map K.cs) R) (ha : ∀ p ∈ P, K.at_ h p.1 p.2)
    (l1 : (L k).length ≤ 100000000) (l2 : (L 4).length + (inns inn P).length ≤ 100000000) (l3 : P.length ≤ 100000000)
    (hq : ∀ h', BagAt h h' id (upf (upf L k (L k ++ [y])) 4 (L 4 ++ (inns inn P).map (·.1))) → Q (.tup []) h') : putD C k K.n f (.ptr id 0 0) y hh Q := by
  refine putG_spec hk hb hy.isCell l1 fun h1 hb1 => ?_
  have e4 : upf L k (L k ++ [y]) 4 = L 4 := upf_ne _ _ (Ne.symm hk4)
  refine LoopR.intro (fun n vs hh => ∃ j : Nat, j + n = P.length ∧ vs = [.int .i64 (j : Int)] ∧ BagAt h hh id (upf (upf L k (L k ++ [y])) 4 (L 4 ++ (inns inn (P.take j)).map (·.1)))) P.length ?_ ⟨0, by simp, rfl, by
    have : upf (upf L k (L k ++ [y])) 4 (L 4 ++ (inns inn (P.take 0)).map (·.1)) = upf L k (L k ++ [y]) := by
      simp only [List.take_zero, List.flatMap_nil, List.map_nil, List.append_nil]
      conv => lhs; rw [← e4]
      exact upf_same _ _
    rw [this]; exact hb1⟩
  rintro Y n vs h2 ⟨j, hj, rfl, hb2⟩ hY
  have hyy := hy.mono hb2.le
  have hly := hyy.lenSl
  rw [List.length_map] at hly
  simp -dsimp only [putD.l2, putD.k1, hly, V.bin_lss, B.pv_some]
  refine B.cond_bool (fun hc => ?_) (fun hc => ?_)
  · have hjl : j < P.length := by simpa using hc
    obtain ⟨p, hp⟩ := get_lt hjl
    have ea := slX_el (K := K) hyy (fun q hq => K.mono hb2.le (ha q hq)) hp
    have hsplit : P.take (j + 1) = P.take j ++ [p] := take_succ hp
    have hlen : (inns inn (P.take j)).length + (inn p.1 p.2).length ≤ (inns inn P).length := by
      have e : P = P.take (j + 1) ++ P.drop (j + 1) := (List.take_append_drop _ _).symm
      have e2 : inns inn P = inns inn (P.take j) ++ (inn p.1 p.2 ++ inns inn (P.drop (j + 1))) := by
        conv => lhs; rw [e, hsplit]
        simp [inns]
      rw [e2]; simp only [List.length_append]; omega
    simp -dsimp only [ea.idx, ea.ldn, B.pv_some, B.ldn_eq]
    refine s1 h h2 id _ p.1 p.2 _ hb2 ea.at_ (by rw [upf_self]; simp only [List.length_append, List.length_map]; omega) fun h3 hb3 => ?_
    simp -dsimp only [add1 (show j < 4611686018427387904 by omega), B.pv_some]
    refine hY (P.length - (j + 1)) _ _ (by omega) ⟨j + 1, by omega, rfl, ?_⟩
    rw [upf_upf, upf_self, List.append_assoc] at hb3
    rw [hsplit]
    simpa [inns] using hb3
  · have hjl : j = P.length := by
      have : ¬ (j : Int) < P.length := by simpa using hc
      omega
    rw [hjl, List.take_length] at hb2
    exact hq h2 hb2
/-- All objects of lists of a kind. -/
def allOb (K : DK T Ad) (ls : List (AVal × List (T × Ad))) : List Ob := ls.flatMap fun p => .sl K.n p.1 (p.2.map K.cs) [] :: K.os false p.2
theorem allOb_perm (hinn : ∀ t a, K.obs false t a = (inn t a).map (obK 1)) (ls : List (AVal × List (T × Ad))) : (allOb K ls).Perm ((ls.flatMap fun p => inns inn p.2).map (obK 1) ++ (ls.map fun p => (p.1, p.2.map K.cs)).map (obK K.n)) := by
  have hos : ∀ P : List (T × Ad), K.os false P = (inns inn P).map (obK 1) := fun P => by
    unfold DK.os inns
    induction P with
    | nil => rfl
    | cons p P ih => rw [List.flatMap_cons, List.flatMap_cons, List.map_append, ← ih, hinn]
  induction ls with
  | nil => exact List.Perm.refl _
  | cons p ls ih =>
    unfold allOb at ih ⊢
    rw [List.flatMap_cons, List.flatMap_cons, List.map_append, List.map_cons, List.map_cons, hos]
    simp only [List.append_assoc]
    have h1 := ih.append_left ((inns inn p.2).map (obK 1))
    refine (List.Perm.cons _ h1).trans ?_
    have : (obK K.n (p.1, p.2.map K.cs)) = Ob.sl K.n p.1 (p.2.map K.cs) [] := rfl
    rw [← this]
    rw [← List.append_assoc, ← List.append_assoc]
    exact List.perm_middle.symm
def ApartD (K : DK T Ad) (C : CSem) (g : Nat) : Prop := ∀ (ls : List (AVal × List (T × Ad))) (x : AVal) (W : List (List AVal)) (h0 h : AHeap) (Q : AVal → AHeap → Prop), SlX h0 1 x (ls.map fun p => [p.1]) W → Owns h0 h (allOb K ls) → (∀ p ∈ ls, ∀ q ∈ p.2, K.ok q.1) → ls.length ≤ 1000 → (∀ p ∈ ls, p.2.length ≤ 1000) →
  (∀ h', h0.le h' → Q (.bool true) h') → C g [x] h Q
theorem inns_len {c : Nat} (hc : ∀ t a, (inn t a).length ≤ c) (P : List (T × Ad)) : (inns inn P).length ≤ P.length * c := by
  induction P with
  | nil => simp [inns]
  | cons p P ih =>
    have := hc p.1 p.2
    simp only [inns, List.flatMap_cons, List.length_append, List.length_cons, Nat.add_mul] at ih ⊢
    omega
theorem apartD_spec {b : BagK} {k fo fu : Nat} (hk : k < 23) (hk4 : k ≠ 4) (hf : ∀ i, b.full i = false → i ≠ k ∧ i ≠ 4) (hlim : b.lim 4 = 140737488351232) (hlimk : 1000 ≤ b.lim k)
    (hone : ∀ (L4 Lk : LK), bagOb b (fun i => if i = k then Lk else if i = 4 then L4 else []) 0 23 = L4.map (obK 1) ++ Lk.map (obK K.n))
    (hinn : ∀ t a, K.obs false t a = (inn t a).map (obK 1)) (hlen : ∀ t a, K.ok t → ∀ q ∈ inn t a, q.2.length ≤ far) (hcnt : ∀ t a, (inn t a).length ≤ 8)
    (s1 : ∀ (v0 v1 : AVal) (h : AHeap) (Q : AVal → AHeap → Prop), putD C k K.n fo v0 v1 h (dn Q) → C fu [v0, v1] h Q) (s2 : OneSpec K inn C fo) {fb : Nat} (s3 : ApartK C b fb)
    {ls : List (AVal × List (T × Ad))} {x : AVal} {W : List (List AVal)} {h0 h : AHeap} {Q : AVal → AHeap → Prop} (hx : SlX h0 1 x (ls.map fun p => [p.1]) W) (ho : Owns h0 h (allOb K ls)) (hok : ∀ p ∈ ls, ∀ q ∈ p.2, K.ok q.1) (hn : ls.length ≤ 1000) (hl : ∀ p ∈ ls, p.2.length ≤ 1000)
    (hq : ∀ h', h0.le h' → Q (.bool true) h') : apartG C fu fb x h Q := by
  simp -dsimp [apartG]
  intro id hid
  have cnt : ∀ l : List (AVal × List (T × Ad)), (∀ p ∈ l, p.2.length ≤ 1000) → (l.flatMap fun p => inns inn p.2).length ≤ l.length * 8000 := by
    intro l
    induction l with
    | nil => intro _; simp
    | cons p l ih =>
      intro hl
      have h1 := ih fun q hq => hl q (List.mem_cons_of_mem _ hq)
      have h2 := inns_len (inn := inn) hcnt p.2
      have h3 := hl p (by simp)
      have h4 := Nat.mul_le_mul_right 8 h3
      simp only [List.flatMap_cons, List.length_append, List.length_cons, Nat.add_mul] at h1 ⊢
      omega
  let bagOf : List (AVal × List (T × Ad)) → Nat → List AVal := fun l i => if i = k then l.map (·.1) else if i = 4 then (l.flatMap fun p => inns inn p.2).map (·.1) else []
  have step : ∀ (l : List (AVal × List (T × Ad))) (p : AVal × List (T × Ad)), upf (upf (bagOf l) k (bagOf l k ++ [p.1])) 4 (bagOf l 4 ++ (inns inn p.2).map (·.1)) = bagOf (l ++ [p]) := fun l p => by
    funext i
    show upf (upf (bagOf l) k (bagOf l k ++ [p.1])) 4 (bagOf l 4 ++ (inns inn p.2).map (·.1)) i = if i = k then (l ++ [p]).map (·.1) else if i = 4 then ((l ++ [p]).flatMap fun p => inns inn p.2).map (·.1) else []
    unfold upf
    by_cases h1 : i = 4
    · subst h1
      simp only [if_true, if_neg (Ne.symm hk4)]
      show (if 4 = k then l.map (·.1) else if 4 = 4 then (l.flatMap fun p => inns inn p.2).map (·.1) else []) ++ _ = _
      rw [if_neg (Ne.symm hk4), if_pos rfl]
      simp
    · by_cases h2 : i = k
      · subst h2
        simp only [if_neg h1, if_true]
        show (if i = i then l.map (·.1) else _) ++ _ = _
        rw [if_pos rfl]; simp
      · simp only [if_neg h1, if_neg h2]
        show (if i = k then _ else if i = 4 then _ else []) = []
        rw [if_neg h2, if_neg h1]
  refine LoopR.intro (fun n vs hh => ∃ j : Nat, j + n = ls.length ∧ vs = [.int .i64 j] ∧ BagAt h hh id (bagOf (ls.take j))) ls.length ?_ ⟨0, by simp, by simp, by
    have := BagAt.start hid
    have e : bagOf (ls.take 0) = fun _ => [] := by funext i; show (if i = k then _ else if i = 4 then _ else []) = []; split <;> simp
    rw [e]; exact this⟩
  rintro Y n vs hh ⟨j, hj, rfl, hb⟩ hY
  have hxx := hx.mono (AHeap.le_trans ho.le hb.le)
  have hlx := hxx.lenSl
  rw [List.length_map] at hlx
  simp -dsimp only [apartG.l2, apartG.k1, hlx, V.bin_lss, B.pv_some]
  refine B.cond_bool (fun hc => ?_) (fun hc => ?_)
  · have hjl : j < ls.length := by simpa using hc
    obtain ⟨p, hp⟩ := get_lt hjl
    have hpm := List.mem_of_getElem? hp
    have hjk : j < (ls.map fun p => [p.1]).length := by simpa using hjl
    have hld : A.ldv hh (elp 1 x j 0) = some p.1 := hxx.cell (by rw [List.getElem?_map, hp]; rfl)
    simp -dsimp only [hxx.idxN hjk, hld, B.pv_some, B.ld_eq]
    have hsl : SlX h K.n p.1 (p.2.map K.cs) [] := ho.is (.sl K.n p.1 (p.2.map K.cs) []) (List.mem_flatMap.2 ⟨p, hpm, by simp⟩)
    have hat : ∀ q ∈ p.2, K.at_ h q.1 q.2 := fun q hq => K.ofObs (b := false) (hok p hpm q hq) fun o hmo => ho.is o (List.mem_flatMap.2 ⟨p, hpm, List.mem_cons_of_mem _ (List.mem_flatMap.2 ⟨q, hq, hmo⟩)⟩)
    have c1 := cnt (ls.take j) fun q hq => hl q (List.mem_of_mem_take hq)
    have c2 := inns_len (inn := inn) hcnt p.2
    have c3 := hl p hpm
    have c4 := Nat.mul_le_mul_right 8 c3
    have c5 : (ls.take j).length * 8000 ≤ 1000 * 8000 := Nat.mul_le_mul_right _ (by rw [List.length_take]; omega)
    refine s1 _ _ _ _ (putD_spec hk hk4 s2 hb hsl hat ?_ ?_ (by omega) fun h3 hb3 => dn_same ?_)
    · show (if k = k then (ls.take j).map (·.1) else _).length ≤ _
      rw [if_pos rfl, List.length_map, List.length_take]; omega
    · show (if 4 = k then _ else if 4 = 4 then ((ls.take j).flatMap fun p => inns inn p.2).map (·.1) else []).length + _ ≤ _
      rw [if_neg (Ne.symm hk4), if_pos rfl, List.length_map]; omega
    · simp -dsimp only [add1 (show j < 4611686018427387904 by omega), B.pv_some]
      refine hY (n - 1) _ _ (by omega) ⟨j + 1, by omega, rfl, ?_⟩
      rw [step] at hb3
      rw [take_succ hp]; exact hb3
  · have hjl : j = ls.length := by
      have : ¬ (j : Int) < ls.length := by simpa using hc
      omega
    rw [hjl, List.take_length] at hb
    let L4 : LK := ls.flatMap fun p => inns inn p.2
    let Lk : LK := ls.map fun p => (p.1, p.2.map K.cs)
    obtain ⟨xs, ob⟩ := hb
    have hp := allOb_perm hinn ls
    rw [← hone] at hp
    obtain ⟨q1, q2⟩ := (((ho.perm hp).join ob).perm List.perm_append_comm).out
    obtain ⟨id', e, hbx⟩ := q1.boxAt 23 Objs.getL
    cases e
    have c1 := cnt ls hl
    have c5 : ls.length * 8000 ≤ 1000 * 8000 := Nat.mul_le_mul_right _ hn
    refine s3 id (fun i => if i = k then Lk else if i = 4 then L4 else []) xs _ hh Q ⟨hbx, fun i hi => ?_, fun i hi hfi => ?_, fun i hi => ?_, fun i hi q hq => ?_⟩ q2 fun h' hle => hq h' (AHeap.le_trans q1.le hle)
    · have := q1.slAt i (Objs.getA hi)
      have e : (bagOf ls i).map sing = ((fun i => if i = k then Lk else if i = 4 then L4 else []) i : LK).map fun q => [q.1] := by
        show (if i = k then ls.map (·.1) else if i = 4 then L4.map (·.1) else []).map sing = (if i = k then Lk else if i = 4 then L4 else []).map fun q => [q.1]
        split
        · rw [List.map_map, List.map_map]; rfl
        · split
          · rw [List.map_map]; rfl
          · rfl
      rw [e] at this; exact this
    · have := hf i hfi
      show (if i = k then Lk else if i = 4 then L4 else []) = []
      rw [if_neg this.1, if_neg this.2]
    · show (if i = k then Lk else if i = 4 then L4 else []).length ≤ _
      split
      · show (ls.map _).length ≤ _
        rw [List.length_map]; omega
      · split
        · show (ls.flatMap _).length ≤ _
          omega
        · simp
    · have hq : q ∈ (if i = k then Lk else if i = 4 then L4 else []) := hq
      by_cases e : i = k
      · rw [if_pos e] at hq
        obtain ⟨p, hp, rfl⟩ := List.mem_map.1 hq
        have := hl p hp
        rw [e]
        simp only [List.length_map]; omega
      · rw [if_neg e] at hq
        by_cases e4 : i = 4
        · rw [if_pos e4] at hq
          obtain ⟨p, hp, hq⟩ := List.mem_flatMap.1 hq
          obtain ⟨r, hr, hq⟩ := List.mem_flatMap.1 hq
          rw [e4, hlim]
          exact hlen r.1 r.2 (hok p hp r hr) q hq
        · rw [if_neg e4] at hq; cases hq
end
/-! The kinds: bytes, rows, turns. -/
def bagRT : BagK := ⟨fun i => if i = 15 then 2 else if i = 16 then 3 else 1, fun i => if i = 4 then 140737488351232 else 100000000, fun i => decide (i = 4) || decide (i = 15) || decide (i = 16)⟩
theorem kNil {i g : Nat} (h : bagRT.full i = false) (s : FlatNil C g) : KindOk C bagRT i g := ⟨fun e => (by rw [h] at e; cases e), fun _ => s⟩
theorem kFull {i g : Nat} (h : bagRT.full i = true) (s : FlatSpecL C (bagRT.es i) (bagRT.lim i) g) : KindOk C bagRT i g := ⟨fun _ => s, fun e => (by rw [h] at e; cases e)⟩
theorem kit_bag_apart.spl (i : kit_bag_apart.Imp C N) (f0 : FlatNil C (N 80)) (f1 : FlatNil C (N 81)) (f2 : FlatNil C (N 82)) (i3 : kit_flatTexts.Imp C N) (f4 : FlatSpecL C 1 140737488351232 (N 84)) (i5 : kit_flatWindows.Imp C N) (i6 : kit_flatLots.Imp C N) (i7 : kit_flatWants.Imp C N) (i8 : kit_flatUses.Imp C N) (i9 : kit_flatParts.Imp C N)
    (f10 : FlatNil C (N 90)) (i11 : kit_flatLines.Imp C N) (f12 : FlatNil C (N 92)) (f13 : FlatNil C (N 93)) (f14 : FlatNil C (N 94)) (f15 : FlatSpecL C 2 100000000 (N 95)) (f16 : FlatSpecL C 3 100000000 (N 96)) (f17 : FlatNil C (N 97)) (f18 : FlatNil C (N 98)) (f19 : FlatNil C (N 99)) (f20 : FlatNil C (N 100)) (f21 : FlatNil C (N 101)) (f22 : FlatNil C (N 102)) : ApartK C bagRT (N 62) := by
  have nil : ∀ {E : ElOps} {g : Nat}, (∀ (v0 : AVal) (h : AHeap) (Q : AVal → AHeap → Prop), flatG E C v0 h (dn Q) → C g [v0] h Q) → FlatNil C g := fun i x W h0 h Q hx hle hq => i x h Q (flatG_nil hx hle fun h' hle => dn_same (hq h' hle))
  exact bag_apartK i bagRT (kNil rfl f0) (kNil rfl f1) (kNil rfl f2) (kNil rfl (nil i3)) (kFull rfl f4) (kNil rfl (nil i5)) (kNil rfl (nil i6)) (kNil rfl (nil i7)) (kNil rfl (nil i8)) (kNil rfl (nil i9)) (kNil rfl f10) (kNil rfl (nil i11)) (kNil rfl f12) (kNil rfl f13) (kNil rfl f14) (kFull rfl f15) (kFull rfl f16) (kNil rfl f17) (kNil rfl f18) (kNil rfl f19) (kNil rfl f20) (kNil rfl f21) (kNil rfl f22)
def rowInn (t : Row) (a : AVal × AVal) : LK := [(a.1, t.Key.map bc), (a.2, t.Value.map bc)]
def turnInn (t : Turn) (a : AVal × AVal × AVal) : LK := [(a.1, t.Key.map bc), (a.2.1, t.Old.map bc), (a.2.2, t.New.map bc)]
theorem kit_bag_oneRow.spec (i : kit_bag_oneRow.Imp C N) (s1 : PutSpec C 4 (N 63)) : OneSpec rowK rowInn C (N 315) := by
  intro h hh id L t a Q hb ha hl hq
  obtain ⟨a1, a2⟩ : Bs hh a.1 t.Key ∧ Bs hh a.2 t.Value := ha
  simp only [rowInn, List.length_cons, List.length_nil] at hl
  apply i
  simp -dsimp [rowK]
  refine s1 h hh id L _ _ hb a1.isCell (by omega) fun h1 hb1 => ?_
  refine s1 h h1 id _ _ _ hb1 a2.isCell (by rw [upf_self]; simp; omega) fun h2 hb2 => ?_
  rw [upf_self, upf_upf, List.append_assoc] at hb2
  exact dn_same (hq h2 hb2)
theorem kit_bag_oneTurn.spec (i : kit_bag_oneTurn.Imp C N) (s1 : PutSpec C 4 (N 63)) : OneSpec turnK turnInn C (N 316) := by
  intro h hh id L t a Q hb ha hl hq
  obtain ⟨a1, a2, a3⟩ : Bs hh a.1 t.Key ∧ Bs hh a.2.1 t.Old ∧ Bs hh a.2.2 t.New := ha
  simp only [turnInn, List.length_cons, List.length_nil] at hl
  apply i
  simp -dsimp [turnK]
  refine s1 h hh id L _ _ hb a1.isCell (by omega) fun h1 hb1 => ?_
  refine s1 h h1 id _ _ _ hb1 a2.isCell (by rw [upf_self]; simp; omega) fun h2 hb2 => ?_
  refine s1 h h2 id _ _ _ hb2 a3.isCell (by rw [upf_self, upf_self]; simp; omega) fun h3 hb3 => ?_
  rw [upf_self, upf_upf, upf_self, upf_upf, List.append_assoc, List.append_assoc] at hb3
  exact dn_same (hq h3 hb3)
theorem one15 (L4 Lk : LK) : bagOb bagRT (fun i => if i = 15 then Lk else if i = 4 then L4 else []) 0 23 = L4.map (obK 1) ++ Lk.map (obK 2) := by
  have e : List.range' 0 23 = [0, 1, 2, 3, 4, 5, 6, 7, 8, 9, 10, 11, 12, 13, 14, 15, 16, 17, 18, 19, 20, 21, 22] := rfl
  unfold bagOb
  rw [e]
  simp [bagRT]
theorem one16 (L4 Lk : LK) : bagOb bagRT (fun i => if i = 16 then Lk else if i = 4 then L4 else []) 0 23 = L4.map (obK 1) ++ Lk.map (obK 3) := by
  have e : List.range' 0 23 = [0, 1, 2, 3, 4, 5, 6, 7, 8, 9, 10, 11, 12, 13, 14, 15, 16, 17, 18, 19, 20, 21, 22] := rfl
  unfold bagOb
  rw [e]
  simp [bagRT]
theorem full15 (i : Nat) (h : bagRT.full i = false) : i ≠ 15 ∧ i ≠ 4 := by
  simp only [bagRT, Bool.or_eq_false_iff, decide_eq_false_iff_not] at h; omega
theorem full16 (i : Nat) (h : bagRT.full i = false) : i ≠ 16 ∧ i ≠ 4 := by
  simp only [bagRT, Bool.or_eq_false_iff, decide_eq_false_iff_not] at h; omega
theorem rowInn_len (t : Row) (a : AVal × AVal) (hk : rowK.ok t) : ∀ q ∈ rowInn t a, q.2.length ≤ far := by
  intro q hq
  simp only [rowInn, List.mem_cons, List.not_mem_nil, or_false] at hq
  rcases hq with rfl | rfl
  · simpa using hk.1
  · simpa using hk.2
theorem turnInn_len (t : Turn) (a : AVal × AVal × AVal) (hk : turnK.ok t) : ∀ q ∈ turnInn t a, q.2.length ≤ far := by
  intro q hq
  simp only [turnInn, List.mem_cons, List.not_mem_nil, or_false] at hq
  rcases hq with rfl | rfl | rfl
  · simpa using hk.1
  · simpa using hk.2.1
  · simpa using hk.2.2
theorem kit_ApartRows.spec (i : kit_ApartRows.Imp C N) (s1 : kit_bag_putRows.Imp C N) (s2 : OneSpec rowK rowInn C (N 315)) (s3 : ApartK C bagRT (N 62)) : ApartD rowK C (N 307) := by
  intro ls x W h0 h Q hx ho hok hn hl hq
  refine i x h Q ?_
  show apartG C (N 312) (N 62) x h (dn Q)
  exact apartD_spec (K := rowK) (inn := rowInn) (b := bagRT) (k := 15) (fo := N 315) (fu := N 312) (fb := N 62) (by omega) (by omega) full15 rfl (by simp [bagRT]) one15 (fun t a => rfl) rowInn_len (fun t a => by simp [rowInn]) s1 s2 s3 hx ho hok hn hl fun h' hle => dn_same (hq h' hle)
theorem kit_ApartTurns.spec (i : kit_ApartTurns.Imp C N) (s1 : kit_bag_putTurns.Imp C N) (s2 : OneSpec turnK turnInn C (N 316)) (s3 : ApartK C bagRT (N 62)) : ApartD turnK C (N 309) := by
  intro ls x W h0 h Q hx ho hok hn hl hq
  refine i x h Q ?_
  show apartG C (N 313) (N 62) x h (dn Q)
  exact apartD_spec (K := turnK) (inn := turnInn) (b := bagRT) (k := 16) (fo := N 316) (fu := N 313) (fb := N 62) (by omega) (by omega) full16 rfl (by simp [bagRT]) one16 (fun t a => rfl) turnInn_len (fun t a => by simp [turnInn]) s1 s2 s3 hx ho hok hn hl fun h' hle => dn_same (hq h' hle)
end Go.Ab

/- What is proved: contract of the seventeenth chapter's statement: turns that fit, and then the same turned round. No conditions. -/
set_option linter.unusedVariables false
set_option linter.unusedSimpArgs false
namespace Go.Ab
variable {C : CSem} {N : Nat → Nat}
/-- Lists of one's own are asked for, as a list of three. -/
theorem apart_three {T Ad : Type} {K : DK T Ad} {g : Nat} (s : ApartD K C g) {h0 h : AHeap} {a b c : AVal} {P1 P2 P3 : List (T × Ad)} {Q : AVal → AHeap → Prop} (ho : Owns h0 h (allOb K [(a, P1), (b, P2), (c, P3)])) (k1 : ∀ q ∈ P1, K.ok q.1) (k2 : ∀ q ∈ P2, K.ok q.1) (k3 : ∀ q ∈ P3, K.ok q.1)
    (l1 : P1.length ≤ 1000) (l2 : P2.length ≤ 1000) (l3 : P3.length ≤ 1000) (hq : ∀ h', h0.le h' → Q (.bool true) h') {id : Nat} (hid : h id = none) : C g [.sl id 0 0 3 1 3] (upd h id (blkOf [a, b, c])) Q := by
  have o := ho.newSl hid (n := 3) (cp := 3) (es := 1) (cs := [a, b, c]) (L := [[a], [b], [c]]) (R := []) (by simp) rfl (by simp) rfl
  obtain ⟨q1, q2⟩ := (o.perm List.perm_append_comm).out
  refine s [(a, P1), (b, P2), (c, P3)] _ [] _ _ Q (q1.slAt 0 rfl) q2 (fun p hp => ?_) (by simp) (fun p hp => ?_) fun h' hle => hq h' (AHeap.le_trans q1.le hle)
  · simp only [List.mem_cons, List.not_mem_nil, or_false] at hp
    rcases hp with rfl | rfl | rfl
    · exact k1
    · exact k2
    · exact k3
  · simp only [List.mem_cons, List.not_mem_nil, or_false] at hp
    rcases hp with rfl | rfl | rfl
    · exact l1
    · exact l2
    · exact l3
theorem apart_two {T Ad : Type} {K : DK T Ad} {g : Nat} (s : ApartD K C g) {h0 h : AHeap} {a b : AVal} {P1 P2 : List (T × Ad)} {Q : AVal → AHeap → Prop} (ho : Owns h0 h (allOb K [(a, P1), (b, P2)])) (k1 : ∀ q ∈ P1, K.ok q.1) (k2 : ∀ q ∈ P2, K.ok q.1)
    (l1 : P1.length ≤ 1000) (l2 : P2.length ≤ 1000) (hq : ∀ h', h0.le h' → Q (.bool true) h') {id : Nat} (hid : h id = none) : C g [.sl id 0 0 2 1 2] (upd h id (blkOf [a, b])) Q := by
  have o := ho.newSl hid (n := 2) (cp := 2) (es := 1) (cs := [a, b]) (L := [[a], [b]]) (R := []) (by simp) rfl (by simp) rfl
  obtain ⟨q1, q2⟩ := (o.perm List.perm_append_comm).out
  refine s [(a, P1), (b, P2)] _ [] _ _ Q (q1.slAt 0 rfl) q2 (fun p hp => ?_) (by simp) (fun p hp => ?_) fun h' hle => hq h' (AHeap.le_trans q1.le hle)
  · simp only [List.mem_cons, List.not_mem_nil, or_false] at hp
    rcases hp with rfl | rfl
    · exact k1
    · exact k2
  · simp only [List.mem_cons, List.not_mem_nil, or_false] at hp
    rcases hp with rfl | rfl
    · exact l1
    · exact l2
theorem okP {T Ad : Type} {K : DK T Ad} {P : List (T × Ad)} {L : List T} (e : P.map (·.1) = L) (hok : ∀ t ∈ L, K.ok t) : ∀ q ∈ P, K.ok q.1 := fun q hq => hok _ (by rw [← e]; exact List.mem_map.2 ⟨q, hq, rfl⟩)
def law17_DeltaUndo.Spec (C : CSem) (N : Nat → Nat) : Prop := ∀ (x y : AVal) (L : List Row) (T : List Turn) (h : AHeap) (Q : AVal → AHeap → Prop), Dl rowK h x L → Dl turnK h y T → L.length < 4000000000000 → T.length < 4000000000000 → Q (.bool true) h → C (N 310) [x, y] h Q
theorem law17_DeltaUndo.spec (i : law17_DeltaUndo.Imp C N) (s1 : law17_awake.Spec C N) (s2 : kit_CopyRows.Spec C N) (s3 : delta_Apply.Spec C N) (s4 : delta_Back.Spec C N) (s5 : kit_SameRows.Spec C N) (s6 : ApartD rowK C (N 307)) (s7 : kit_CopyTurns.Spec C N) (s8 : ApartD turnK C (N 309)) : law17_DeltaUndo.Spec C N := by
  intro x y L T h Q hx hy hl1 hl2 hq
  apply i
  simp -dsimp only [law17_DeltaUndo.cps, law17_DeltaUndo.k1]
  refine s1 _ _ ?_
  have g60 : V.bin .gtr (.int .i64 (L.length : Int)) (.int .i64 60) = some (.bool (decide (60 < L.length))) := gtrN (b := 60)
  have g80 : V.bin .gtr (.int .i64 (T.length : Int)) (.int .i64 80) = some (.bool (decide (80 < T.length))) := gtrN (b := 80)
  by_cases hL : 60 < L.length
  · simp -dsimp [- V.bin_gtr, hx.lenSl, g60, hL]
    exact dn_same hq
  by_cases hT : 80 < T.length
  · simp -dsimp [- V.bin_gtr, hx.lenSl, hy.lenSl, g60, g80, hL, hT]
    exact dn_same hq
  simp -dsimp [- V.bin_gtr, hx.lenSl, hy.lenSl, g60, g80, hL, hT]
  refine s2 _ _ _ _ hx (by omega) fun own P0 h1 e0 o0 => ?_
  have D0 := o0.dl' e0 hx.ok
  refine s3 _ _ _ _ _ _ D0 (hy.mono o0.le) (by omega) (by omega) (fun hn => ?_) fun m a P1 h2 em e1 o1 => ?_
  · simp -dsimp
    exact dn_le o0.le hq
  have okM := applyR_ok hy.ok hx.ok em
  have hml : m.length ≤ L.length + T.length := by
    have := em
    unfold applyR at this
    split at this
    · exact goA_len T this
    · cases this
  have D1 := o1.dl' e1 okM
  have l2 := AHeap.le_trans o0.le o1.le
  simp -dsimp
  refine s4 _ _ _ _ (hy.mono l2) (by omega) fun bk P2 h3 e2 o2 => ?_
  have D2 := o2.dl' e2 (backR_ok hy.ok)
  refine s3 _ _ _ _ _ _ (D1.mono o2.le) D2 (by omega) (by simp [backR]; omega) (fun hn => by rw [apply_undo em] at hn; cases hn) fun n b P3 h4 en e3 o3 => ?_
  rw [apply_undo em] at en
  cases en
  have D3 := o3.dl' e3 hx.ok
  have l4 := AHeap.le_trans (AHeap.le_trans l2 o2.le) o3.le
  simp -dsimp
  refine s5 _ _ _ _ _ _ D3 (hx.mono l4) (by omega) ?_
  have c0 := D0.isCell; have c1 := D1.isCell; have c3 := D3.isCell
  have f3 : fillL [(0, none, own), (1, none, a), (2, none, b)] (repL 3 [.nils]) = some [own, a, b] := by simp [repL, c0, c1, c3]
  simp -dsimp only [decide_true, cond_true, B.gd_t, B.gdb_true, B.gdb_pure, gv_true, B.pick_t, f3]
  have lens : ∀ {T Ad : Type} {P : List (T × Ad)} {L : List T}, P.map (·.1) = L → P.length = L.length := fun e => by rw [← e, List.length_map]
  have all3 : Owns h h4 (allOb rowK [(own, P0), (a, P1), (b, P3)]) := by
    have h13 := ((o0.join o1).join o2).join o3
    have hs : (allOb rowK [(own, P0), (a, P1), (b, P3)]) = (.sl rowK.n own (P0.map rowK.cs) [] :: rowK.os false P0) ++ (.sl rowK.n a (P1.map rowK.cs) [] :: rowK.os false P1) ++ [] ++ (.sl rowK.n b (P3.map rowK.cs) [] :: rowK.os false P3) := by
      simp [allOb]
    rw [hs]
    exact h13.sub (List.Sublist.append (List.Sublist.append (List.Sublist.refl _) (List.nil_sublist _)) (List.Sublist.refl _))
  intro id5 hid5
  simp -dsimp only [B.gd_t, B.gdb_true]
  refine apart_three s6 all3 (okP e0 hx.ok) (okP e1 okM) (okP e3 hx.ok) (by rw [lens e0]; omega) (by rw [lens e1]; omega) (by rw [lens e3]; omega) (fun h5 l5 => ?_) hid5
  simp -dsimp only [decide_true, cond_true, B.gd_t, B.gdb_true, B.gdb_pure, gv_true, B.pick_t]
  refine s7 _ _ _ _ (hy.mono l5) (by omega) fun cp P5 h6 e5 o5 => ?_
  have D5 := o5.dl' e5 hy.ok
  simp -dsimp only [decide_true, cond_true, B.gd_t, B.gdb_true, B.gdb_pure, gv_true, B.pick_t]
  refine s4 _ _ _ _ (hy.mono (AHeap.le_trans l5 o5.le)) (by omega) fun bk2 P6 h7 e6 o6 => ?_
  have D6 := o6.dl' e6 (backR_ok hy.ok)
  have c5 := D5.isCell; have c6 := D6.isCell
  have f2 : fillL [(0, none, cp), (1, none, bk2)] (repL 2 [.nils]) = some [cp, bk2] := by simp [repL, c5, c6]
  simp -dsimp only [decide_true, cond_true, B.gd_t, B.gdb_true, B.gdb_pure, gv_true, B.pick_t, f2]
  have all2 : Owns h5 h7 (allOb turnK [(cp, P5), (bk2, P6)]) := by
    have := o5.join o6
    simpa [allOb] using this
  intro id8 hid8
  simp -dsimp only [B.gd_t, B.gdb_true]
  refine apart_two s8 all2 (okP e5 hy.ok) (okP e6 (backR_ok hy.ok)) (by rw [lens e5]; omega) (by rw [lens e6]; simp [backR]; omega) (fun h8 l8 => ?_) hid8
  simp -dsimp
  exact dn_le (AHeap.le_trans l5 l8) hq
end Go.Ab
