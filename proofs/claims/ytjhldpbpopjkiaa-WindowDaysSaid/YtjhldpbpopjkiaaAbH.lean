/- What is proved: loads and stores of the model are those that are told in the abstract memory. -/
import Derived.Test.YtjhldpbpopjkiaaAbG
namespace Go.Ab
open Go.RowKit (Below)

theorem mem_of_lookup {g hi : Nat} : ∀ {l : List (Nat × Nat)}, l.lookup g = some hi → (g, hi) ∈ l
  | [], h => by simp at h
  | (k, v) :: r, h => by
    rw [List.lookup_cons] at h
    by_cases hk : g = k
    · subst hk
      simp at h
      simp [h]
    · have : (g == k) = false := by simpa using hk
      rw [this] at h
      exact List.mem_cons_of_mem _ (mem_of_lookup h)

section
variable {P : Program} {w0 : World} {ρ : Locs} {h H : AHeap} {w : World}

/-- What lies in memory, from what is told of it: n cells. -/
theorem read_cells (hR : R w0 ρ H w) {id : Nat} {b : Blk} (hid : H id = some b) {g hi : Nat} (hg : (g, hi) ∈ b.gens) {L : Loc} (hL : ρ id g = some L) {off n : Nat} (hlo : L.lo ≤ off) (hn : off + n ≤ hi) :
    ∃ l : List Value, l.length = n ∧ VRels ρ ((b.cells.drop off).take n) l ∧ (∀ u ∈ l, u.oneCell' = true) ∧
      ∀ j u, l[j]? = some u → w.cell? ⟨L.blk, L.base + (off - L.lo) + j, none⟩ = some u := by
  obtain ⟨h0, L', arr, e, fr, h1, h2, h3, h4, _, h6⟩ := (hR.blk id b hid).gen g hi hg
  rw [hL] at h1
  cases h1
  have hat : ∀ j, j < n → arr[L.base + (off - L.lo) + j]? = arr[L.base + (off + j - L.lo)]? := fun j hj => by
    rw [show L.base + (off - L.lo) + j = L.base + (off + j - L.lo) by omega]
  have hlen : ((arr.toList.drop (L.base + (off - L.lo))).take n).length = n := by
    simp only [List.length_take, List.length_drop, Array.length_toList]
    omega
  have hget : ∀ j, j < n → ((arr.toList.drop (L.base + (off - L.lo))).take n)[j]? = arr[L.base + (off - L.lo) + j]? := fun j hj => by
    rw [List.getElem?_take_of_lt hj, List.getElem?_drop]
    simp
  refine ⟨(arr.toList.drop (L.base + (off - L.lo))).take n, hlen, ?_, ?_, ?_⟩
  · refine VRels.of_get (by rw [hlen, List.length_take, List.length_drop]; omega) fun j a u ha hu => ?_
    have hj : j < n := by
      rcases Nat.lt_or_ge j n with hj | hj
      · exact hj
      · rw [List.getElem?_eq_none (by rw [hlen]; exact hj)] at hu; cases hu
    rw [List.getElem?_take_of_lt hj, List.getElem?_drop] at ha
    obtain ⟨u', k1, k2, _⟩ := h6 (off + j) (by omega) (by omega) a ha
    rw [hget j hj, hat j hj, k1] at hu
    cases hu
    exact k2
  · intro u hu
    obtain ⟨j, hj, rfl⟩ := List.getElem_of_mem hu
    rw [hlen] at hj
    have ha : ∃ a, b.cells[off + j]? = some a := ⟨_, List.getElem?_eq_getElem (by omega)⟩
    obtain ⟨a, ha⟩ := ha
    obtain ⟨u', k1, _, k3⟩ := h6 (off + j) (by omega) (by omega) a ha
    have := hget j hj
    rw [hat j hj, k1, List.getElem?_eq_getElem (by rw [hlen]; exact hj)] at this
    cases this
    exact k3
  · intro j u hu
    have hj : j < n := by
      rcases Nat.lt_or_ge j n with hj | hj
      · exact hj
      · rw [List.getElem?_eq_none (by rw [hlen]; exact hj)] at hu; cases hu
    rw [hget j hj] at hu
    simp only [World.cell?, h2]
    simpa using hu

/-- One cell. -/
theorem ldv_sound (hR : R w0 ρ H w) (hle : h.le H) {p x : AVal} (hx : A.ldv h p = some x) {v : Value} (hp : VRel ρ p v) :
    ∃ ad u, v = .pointer (some ad) ∧ w.cell? ad = some u ∧ VRel ρ x u ∧ u.oneCell' = true := by
  unfold A.ldv at hx
  split at hx <;> (try (cases hx; done))
  rename_i id g off
  split at hx <;> (try (cases hx; done))
  rename_i b hb
  split at hx <;> (try (cases hx; done))
  rename_i hi hg
  split at hx <;> (try (cases hx; done))
  rename_i hlt
  obtain ⟨L, hL, hlo, rfl⟩ := hp
  obtain ⟨l, k1, k2, k3, k4⟩ := read_cells hR (hle id b hb) (mem_of_lookup hg) hL (n := 1) hlo (by omega)
  cases l with
  | nil => simp at k1
  | cons u r =>
    have : ((b.cells.drop off).take 1)[0]? = some x := by rw [List.getElem?_take_of_lt (by omega), List.getElem?_drop]; simpa using hx
    obtain ⟨u', e1, e2⟩ := k2.get this
    simp at e1
    subst e1
    exact ⟨_, u, rfl, by simpa using k4 0 u (by simp), e2, k3 u (by simp)⟩

/-- A slice's first n elements, or a text's bytes: the cells, and how the model reads them. -/
theorem rdv_sound (hR : R w0 ρ H w) (hle : h.le H) {x : AVal} {n es : Nat} {cs : List AVal} (hx : A.rdv h x n es = some cs) {v : Value} (hv : VRel ρ x v) :
    ∃ l : List Value, l.length = n * es ∧ VRels ρ cs l ∧ (∀ u ∈ l, u.oneCell' = true) ∧ (∀ w', (∀ b o u, w.cell? ⟨b, o, none⟩ = some u → w'.cell? ⟨b, o, none⟩ = some u) → (Builtin.firstCells es n v).run P w' = .ok l.toArray w') ∧
      (n = 0 ∨ ∃ ad m c, v = .slice (some ad) m c ∧ ∀ j u, l[j]? = some u → w.cell? (ad.add j) = some u) := by
  unfold A.rdv at hx
  split at hx <;> (try (cases hx; done))
  · split at hx <;> (try (cases hx; done))
    rename_i hn
    cases hx; cases hv; subst hn
    exact ⟨[], by simp, rfl, by simp, fun w' _ => by simp [Builtin.firstCells], .inl rfl⟩
  · split at hx <;> (try (cases hx; done))
    rename_i hn
    cases hx; obtain ⟨a, rfl⟩ := hv; subst hn
    exact ⟨[], by simp, rfl, by simp, fun w' _ => by simp [Builtin.firstCells, loadCells, loadCellsFrom], .inl rfl⟩
  · rename_i id g off len es' cp'
    split at hx <;> (try (cases hx; done))
    rename_i b hb
    split at hx <;> (try (cases hx; done))
    rename_i hi hg
    split at hx <;> (try (cases hx; done))
    rename_i hlt
    cases hx
    obtain ⟨L, hL, hlo, ⟨cap, rfl, h1, h2, h3⟩ | ⟨rfl, _, a, rfl⟩⟩ := hv
    case inr =>
      have h0 : n = 0 := by omega
      subst h0
      exact ⟨[], by simp, by simp [VRels], by simp, fun w' _ => by simp [Builtin.firstCells, loadCells, loadCellsFrom], .inl rfl⟩
    obtain ⟨l, k1, k2, k3, k4⟩ := read_cells hR (hle id b hb) (mem_of_lookup hg) hL (n := n * es) hlo hlt.2
    refine ⟨l, k1, k2, k3, fun w' hw => ?_, .inr ⟨_, _, _, rfl, fun j u hj => by rw [addr_add]; exact k4 j u hj⟩⟩
    exact run_firstCells_some w' es n _ _ _ l k1 fun j u hj => by rw [addr_add]; exact hw _ _ _ (k4 j u hj)

/-! Stores. -/
theorem setCells_turned (b : Nat) {e : TypeId} {fr : Nat × Nat} : ∀ (vs : List Value) (o : Nat) (w : World) (arr : Array Value), w.heap[b]? = some (.cells arr e fr) → o + vs.length ≤ arr.size →
    ∃ arr', Turned w (w.setCells b o vs) b arr' e fr ∧ arr'.size = arr.size ∧ (∀ x, x < o → arr'[x]? = arr[x]?) ∧ (∀ j, j < vs.length → arr'[o + j]? = vs[j]?) ∧ (∀ x, o + vs.length ≤ x → arr'[x]? = arr[x]?)
  | [], o, w, arr, h, _ => ⟨arr, ⟨rfl, rfl, rfl, rfl, h, fun _ _ => rfl⟩, rfl, fun _ _ => rfl, fun j hj => by simp at hj, fun _ _ => rfl⟩
  | v :: vs, o, w, arr, h, hl => by
    simp only [List.length_cons] at hl
    have h1 : (w.setCell ⟨b, o, none⟩ v).heap[b]? = some (.cells (arr.setIfInBounds o v) e fr) := by
      simp [World.setCell, Array.getElem?_modify, h]
    obtain ⟨arr', ht, hs, k1, k2, k3⟩ := setCells_turned b vs (o + 1) (w.setCell ⟨b, o, none⟩ v) (arr.setIfInBounds o v) h1 (by simp; omega)
    refine ⟨arr', ⟨ht.os, ht.tape, ht.output, ?_, ht.at_, fun i hi => ?_⟩, by simpa using hs, fun x hx => ?_, fun j hj => ?_, fun x hx => ?_⟩
    · rw [show w.setCells b o (v :: vs) = (w.setCell ⟨b, o, none⟩ v).setCells b (o + 1) vs from rfl, ht.size]; simp [World.setCell]
    · rw [show w.setCells b o (v :: vs) = (w.setCell ⟨b, o, none⟩ v).setCells b (o + 1) vs from rfl, ht.other i hi]
      exact Below.heap_setCell _ _ _ _ hi
    · rw [k1 x (by omega), Array.getElem?_setIfInBounds_ne (by omega)]
    · cases j with
      | zero =>
        rw [Nat.add_zero, k1 o (by omega), Array.getElem?_setIfInBounds_self_of_lt (by omega)]
        simp
      | succ j =>
        have := k2 j (by simpa using hj)
        rw [show o + (j + 1) = o + 1 + j by omega, this]
        simp
    · simp only [List.length_cons] at hx
      rw [k3 x (by omega), Array.getElem?_setIfInBounds_ne (by omega)]

def splice (cs xs : List AVal) (o : Nat) : List AVal := cs.take o ++ xs ++ cs.drop (o + xs.length)

theorem splice_get {cs xs : List AVal} {o j : Nat} (h : o + xs.length ≤ cs.length) : (splice cs xs o)[j]? = if j < o then cs[j]? else if j < o + xs.length then xs[j - o]? else cs[j]? := by
  unfold splice
  have hl : (cs.take o).length = o := by rw [List.length_take]; omega
  by_cases h1 : j < o
  · rw [if_pos h1, List.append_assoc, List.getElem?_append_left (by omega), List.getElem?_take_of_lt h1]
  · rw [if_neg h1, List.append_assoc, List.getElem?_append_right (by omega), hl]
    by_cases h2 : j < o + xs.length
    · rw [if_pos h2, List.getElem?_append_left (by omega)]
    · rw [if_neg h2, List.getElem?_append_right (by omega), List.getElem?_drop]
      congr 1
      omega

theorem splice_length {cs xs : List AVal} {o : Nat} (h : o + xs.length ≤ cs.length) : (splice cs xs o).length = cs.length := by
  simp only [splice, List.length_append, List.length_take, List.length_drop]; omega

theorem store_sound (hR : R w0 ρ H w) {id : Nat} {b : Blk} (hid : H id = some b) (hown : b.own = true) {g hi : Nat} (hg : (g, hi) ∈ b.gens) {L : Loc} (hL : ρ id g = some L) {off : Nat} (hlo : L.lo ≤ off)
    {xs : List AVal} {vs : List Value} (hn : off + xs.length ≤ hi) (hx : VRels ρ xs vs) (h1 : ∀ u ∈ vs, u.oneCell' = true) :
    (storeCells ⟨L.blk, L.base + (off - L.lo), none⟩ vs).run P w = .ok () (w.setCells L.blk (L.base + (off - L.lo)) vs) ∧
    R w0 ρ (upd H id { b with cells := splice b.cells xs off, gens := [(g, hi)] }) (w.setCells L.blk (L.base + (off - L.lo)) vs) := by
  obtain ⟨h0, L', arr, e, fr, k1, k2, k3, k4, k5, k6⟩ := (hR.blk id b hid).gen g hi hg
  rw [hL] at k1
  cases k1
  have hlen := hx.length
  obtain ⟨arr', ht, hs, m1, m2, m3⟩ := setCells_turned L.blk vs (L.base + (off - L.lo)) w arr k2 (by omega)
  constructor
  · refine run_storeCells_cells L.blk (L.base + (off - L.lo)) vs 0 w (fun j hj => ?_) (fun j hj => ?_) h1
    · simp only [World.cell?, k2]
      simp only [Option.isSome_none, Bool.false_eq_true, if_false, Nat.add_zero]
      rw [Array.getElem?_eq_getElem (by omega)]; rfl
    · have hfr := (k5 hown).2
      simp only [World.frozen?, k2, Nat.add_zero]
      unfold frOk at hfr
      simp only [Bool.and_eq_false_iff, decide_eq_false_iff_not]
      omega
  · refine hR.write hid hown hg hL (k5 hown).2 ht (by omega) _ (by rw [splice_length (by omega)]; exact h0) fun j hj1 hj2 a ha => ?_
    rw [splice_get (by omega)] at ha
    split at ha
    · obtain ⟨u, q1, q2, q3⟩ := k6 j hj1 hj2 a ha
      exact ⟨u, by rw [m1 _ (by omega)]; exact q1, q2, q3⟩
    · split at ha
      · obtain ⟨u, q1, q2⟩ := hx.get ha
        have := m2 (j - off) (by omega)
        rw [show L.base + (off - L.lo) + (j - off) = L.base + (j - L.lo) by omega, q1] at this
        exact ⟨u, this, q2, h1 u (List.mem_of_getElem? q1)⟩
      · obtain ⟨u, q1, q2, q3⟩ := k6 j hj1 hj2 a ha
        exact ⟨u, by rw [m3 _ (by omega)]; exact q1, q2, q3⟩

theorem Fr.upd {h H : AHeap} {id : Nat} {b : Blk} {b' : Blk} (hid : h id = some b') : Fr h H (upd h id b) (upd H id b) := fun i h0 x hx => by
  have : i ≠ id := fun hi => by subst hi; rw [h0] at hid; cases hid
  rw [upd_other _ _ this, upd_other _ _ this]
  exact ⟨hx, h0⟩
theorem Fr.fresh {h H : AHeap} {id : Nat} {b : Blk} (hid : H id = none) : Fr h H (Ab.upd h id b) (Ab.upd H id b) := fun i h0 x hx => by
  have : i ≠ id := fun hi => by subst hi; rw [hid] at hx; cases hx
  rw [upd_other _ _ this, upd_other _ _ this]
  exact ⟨hx, h0⟩

end
end Go.Ab
