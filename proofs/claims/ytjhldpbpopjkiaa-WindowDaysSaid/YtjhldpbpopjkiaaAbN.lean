/- What is proved: append does what is told in the abstract memory. -/
import Derived.Test.YtjhldpbpopjkiaaAbM
namespace Go.Ab
open Go.RowKit (Below)

section
variable {P : Program} {w0 : World} {ρ : Locs} {h H : AHeap} {w : World} {s : Slots} {a : Act} {K : AVal → AHeap → Prop} {o : Oper} {Q : Exit → Act → World → Prop}

theorem app_room (hR : R w0 ρ H w) {id : Nat} {b : Blk} (hid : H id = some b) (hown : b.own = true) {g hi : Nat} (hg : (g, hi) ∈ b.gens) {L : Loc} (hL : ρ id g = some L) {e : Nat} (he : e ≤ hi) (hlo : L.lo ≤ e)
    {xs : List AVal} {vs : List Value} (hx : VRels ρ xs vs) (h1 : ∀ u ∈ vs, u.oneCell' = true) (hroom : L.base + (e - L.lo) + xs.length ≤ L.size) :
    (∀ j, j < vs.length → (w.cell? ⟨L.blk, L.base + (e - L.lo) + j, none⟩).isSome = true) ∧ (∀ j, j < vs.length → w.frozen? ⟨L.blk, L.base + (e - L.lo) + j, none⟩ = false) ∧
    R w0 (ρ.put id b.next L) (upd H id (appBlk b e xs)) (w.setCells L.blk (L.base + (e - L.lo)) vs) := by
  obtain ⟨h0, L', arr, ty, fr, k1, k2, k3, k4, k5, k6⟩ := (hR.blk id b hid).gen g hi hg
  rw [hL] at k1
  cases k1
  have hlen := hx.length
  have hfr := (k5 hown).2
  obtain ⟨arr', ht, hs, m1, m2, m3⟩ := setCells_turned L.blk vs (L.base + (e - L.lo)) w arr k2 (by omega)
  refine ⟨fun j hj => ?_, fun j hj => ?_, ?_⟩
  · simp only [World.cell?, k2]
    simp only [Option.isSome_none, Bool.false_eq_true, if_false]
    rw [Array.getElem?_eq_getElem (by omega)]; rfl
  · simp only [World.frozen?, k2]
    unfold frOk at hfr
    simp only [Bool.and_eq_false_iff, decide_eq_false_iff_not]
    omega
  · refine hR.app hid hown hg hL he hlo xs L (ht.below hR.below (k5 hown).1) (.inl ⟨rfl, rfl, rfl, rfl⟩) (k5 hown).1 (fun k hk _ => ht.other k hk) (fun arr2 ty2 fr2 hh => ?_) hfr ht.at_ (by omega) (by omega) fun j hj1 hj2 x hxx => ?_
    · rw [k2] at hh
      cases hh
      exact ⟨arr', ht.at_, hs, fun x hx => m1 x hx⟩
    · have htl : (b.cells.take e).length = e := by rw [List.length_take]; omega
      by_cases hje : j < e
      · rw [List.getElem?_append_left (by omega), List.getElem?_take_of_lt hje] at hxx
        obtain ⟨u, q1, q2, q3⟩ := k6 j hj1 (by omega) x hxx
        exact ⟨u, by rw [m1 _ (by omega)]; exact q1, q2, q3⟩
      · rw [List.getElem?_append_right (by omega), htl] at hxx
        obtain ⟨u, q1, q2⟩ := hx.get hxx
        have := m2 (j - e) (by omega)
        rw [show L.base + (e - L.lo) + (j - e) = L.base + (j - L.lo) by omega, q1] at this
        exact ⟨u, this, q2, h1 u (List.mem_of_getElem? q1)⟩

theorem app_grow (hR : R w0 ρ H w) {id : Nat} {b : Blk} (hid : H id = some b) (hown : b.own = true) {g hi : Nat} (hg : (g, hi) ∈ b.gens) {L : Loc} (hL : ρ id g = some L) {off n : Nat} (he : off + n ≤ hi) (hlo : L.lo ≤ off)
    {os : List Value} (hos : VRels ρ ((b.cells.drop off).take n) os) (ho1 : ∀ u ∈ os, u.oneCell' = true) {xs : List AVal} {vs : List Value} (hx : VRels ρ xs vs) (h1 : ∀ u ∈ vs, u.oneCell' = true) (rest : Array Value) (ty : TypeId) :
    R w0 (ρ.put id b.next ⟨w.heap.size, 0, off, (os.toArray ++ vs.toArray ++ rest).size⟩) (upd H id (appBlk b (off + n) xs)) (w.drew.alloc (.cells (os.toArray ++ vs.toArray ++ rest) ty)) := by
  obtain ⟨h0, L', arr, ty', fr, k1, k2, k3, k4, k5, k6⟩ := (hR.blk id b hid).gen g hi hg
  rw [hL] at k1
  cases k1
  have hlen := hx.length
  have hol := hos.length
  rw [List.length_take, List.length_drop] at hol
  have hb0 := hR.below.size
  have hold : ∀ k, k < w.heap.size → (w.heap.push (.cells (os.toArray ++ vs.toArray ++ rest) ty))[k]? = w.heap[k]? := fun k hk => by
    rw [Array.getElem?_push, if_neg (by omega)]
  refine hR.app hid hown hg hL he (by omega) xs ⟨w.heap.size, 0, off, (os.toArray ++ vs.toArray ++ rest).size⟩ ?_ (.inr ⟨Nat.le_refl _, hlo, by simp⟩) hb0 (fun k _ hk => hold k hk) (fun arr2 ty2 fr2 hh => ?_) (fr' := (0, 0)) (.inl (Nat.le_refl _)) (arr' := os.toArray ++ vs.toArray ++ rest) (ty := ty) ?_ rfl ?_ fun j hj1 hj2 x hxx => ?_
  · exact hR.below.trans ⟨rfl, rfl, rfl, by simp, fun k hk => hold k (by omega)⟩
  · exact ⟨arr2, by rw [show (w.drew.alloc _).heap = w.heap.push _ from rfl, hold _ (Array.getElem?_eq_some_iff.1 hh).1]; exact hh, rfl, fun _ _ => rfl⟩
  · show (w.heap.push _)[w.heap.size]? = _
    simp
  · simp only [Array.size_append, List.size_toArray]; omega
  · have htl : (b.cells.take (off + n)).length = off + n := by rw [List.length_take]; omega
    simp only at hj1 ⊢
    rw [Nat.zero_add]
    have hA : (os.toArray ++ vs.toArray ++ rest) = (os ++ vs ++ rest.toList).toArray := by apply Array.ext'; simp
    rw [hA, List.getElem?_toArray]
    by_cases hje : j < off + n
    · rw [List.getElem?_append_left (by omega), List.getElem?_take_of_lt hje] at hxx
      have : ((b.cells.drop off).take n)[j - off]? = some x := by rw [List.getElem?_take_of_lt (by omega), List.getElem?_drop, show off + (j - off) = j by omega]; exact hxx
      obtain ⟨u, q1, q2⟩ := hos.get this
      exact ⟨u, by rw [List.append_assoc, List.getElem?_append_left (by omega)]; exact q1, q2, ho1 u (List.mem_of_getElem? q1)⟩
    · rw [List.getElem?_append_right (by omega), htl] at hxx
      obtain ⟨u, q1, q2⟩ := hx.get hxx
      refine ⟨u, ?_, q2, h1 u (List.mem_of_getElem? q1)⟩
      rw [List.append_assoc, List.getElem?_append_right (by omega), List.getElem?_append_left (by omega), show j - off - os.length = j - (off + n) by omega]
      exact q1

/-- Nothing is appended. -/
theorem run_append_zero {t ty e : TypeId} {base ad : Option Addr} {n cap c : Nat} (ht : P.underlying t = some (.slice e)) (hi : ∃ i, P.info? e = some i) (hn : n ≤ cap) :
    (Builtin.append_ #[t, t] ty #[.slice base n cap, .slice ad 0 c]).run P w = .ok (.slice base n cap) w := by
  obtain ⟨i, hi⟩ := hi
  have hf : (Builtin.firstCells i.size 0 (.slice ad 0 c)).run P w = .ok #[] w := by
    cases ad with
    | none => simp [Builtin.firstCells]
    | some a => simp [Builtin.firstCells, loadCells, loadCellsFrom]
  cases base with
  | none => simp [Builtin.append_, run_underlying ht, sizeOf, typeInfo, hi, Builtin.lenOf, hn, hf]
  | some a => simp [Builtin.append_, run_underlying ht, sizeOf, typeInfo, hi, Builtin.lenOf, hn, hf, storeCells]

theorem slice_of_srcLen {y : AVal} {v : Value} {n : Nat} (hy : VRel ρ y v) (hns : ∀ l, y ≠ .str l) (h : A.srcLen y = some n) : ∃ ad c, v = .slice ad n c := by
  unfold A.srcLen at h
  split at h <;> (try (cases h; done))
  · cases h; exact ⟨_, _, hy⟩
  · cases h; obtain ⟨a, e⟩ := hy; exact ⟨_, _, e⟩
  · cases h; obtain ⟨a, c, e⟩ := rel_sl hy; exact ⟨_, _, e⟩
  · exact absurd rfl (hns _)

theorem op_append {c : Call} (ho : o.op = .call c) (hc : c.callee = .builtin .append) {t e : TypeId} {x y : Operand} (ha : c.argTypes = #[t, t]) (hargs : c.args = #[x, y]) (ht : P.underlying t = some (.slice e)) (hpos : 0 < P.cellsOf e)
    (hz : (zeroOf P e).isSome = true) (hR : R w0 ρ H w) (hle : h.le H) (hs : SRel ρ s a) (hop : A.appW h (P.cellsOf e) (P.bytesOf e) (evS s x) (evS s y) K) : OpOk P w0 ρ h H K o a w Q := by
  have hx := evS_rel hs x
  have hy := evS_rel hs y
  obtain ⟨zc, hz⟩ := Option.isSome_iff_exists.1 hz
  obtain ⟨it, zv, hit, hzv, _, _, _, hsz, _, _⟩ := zeroOf_spec (ρ := ρ) hz
  have hce := cellsOf_eq hit
  have hbe : P.bytesOf e = it.bytes := by simp [Program.bytesOf, hit]
  unfold A.appW at hop
  split at hop
  case h_2 => exact hop.elim
  rename_i n hn
  unfold A.app at hop
  split at hop
  case h_1 => exact hop.elim
  rename_i cs hcs
  have hns : ∀ l, evS s y ≠ .str l := fun l hl => by rw [hl] at hcs; simp [A.rdv] at hcs
  obtain ⟨ad, cap', ey⟩ := slice_of_srcLen hy hns hn
  obtain ⟨vs, hvl, hv, h1, _, hor⟩ := rdv_sound (P := P) hR hle hcs hy
  have hcl := hv.length
  have hdiv : cs.length / P.cellsOf e = n := by rw [hcl, hvl]; exact Nat.mul_div_cancel _ hpos
  have hexec : ∀ r w', (Builtin.append_ #[t, t] o.type #[a.eval x, a.eval y]).run P w = .ok r w' → (execOp a.eval o).run P w = .ok (.value r) w' := fun r w' hr => by
    simp [execOp, ho, resolve, hc, hargs, ha, invoke, builtin, hr]
  have hzero : n = 0 → cs = [] ∧ vs = [] := fun h0 => by
    subst h0
    have : vs = [] := List.eq_nil_of_length_eq_zero (by omega)
    exact ⟨List.eq_nil_of_length_eq_zero (by omega), this⟩
  have hpos' : n ≠ 0 → ∃ ad', a.eval y = .slice (some ad') n cap' ∧ ∀ j u, vs[j]? = some u → w.cell? (ad'.add j) = some u := fun h0 => by
    rcases hor with h' | ⟨ad', m, c', e', hr⟩
    · exact absurd h' h0
    · rw [ey] at e'
      cases e'
      exact ⟨ad', ey, hr⟩
  have hlz : cs.length = 0 ↔ n = 0 := by
    rw [hcl, hvl]
    constructor
    · intro h0
      rcases Nat.mul_eq_zero.1 h0 with h0 | h0
      · exact h0
      · omega
    · intro h0; rw [h0, Nat.zero_mul]
  -- a new array where there was none
  have fresh : ∀ (xv : Value) (olds : List Value), olds = [] → (∀ ad', a.eval y = .slice (some ad') n cap' → (∀ j u, vs[j]? = some u → w.cell? (ad'.add j) = some u) →
      (Builtin.append_ #[t, t] o.type #[a.eval x, .slice (some ad') n cap']).run P w = .ok (.slice (some ⟨w.heap.size, 0, none⟩) n (grownCap w n 0 e)) (w.drew.alloc (.cells (vs.toArray ++ Builtin.zeroCells zv.cells (grownCap w n 0 e - n)) e))) → n ≠ 0 →
      n ≤ maxLen → A.new h cs (fun id h => K (.sl id 0 0 n (P.cellsOf e) n) h) → OpOk P w0 ρ h H K o a w Q := by
    intro xv olds _ hrun h0 hmax hnew
    obtain ⟨ad', ey', hr⟩ := hpos' h0
    have hr' := hrun ad' ey' hr
    rw [← ey'] at hr'
    have hg := grownCap_ge w n 0 e
    have hA : (vs.toArray ++ Builtin.zeroCells zv.cells (grownCap w n 0 e - n)) = (vs ++ (Builtin.zeroCells zv.cells (grownCap w n 0 e - n)).toList).toArray := by apply Array.ext'; simp
    have hAs : (vs.toArray ++ Builtin.zeroCells zv.cells (grownCap w n 0 e - n)).size = grownCap w n 0 e * P.cellsOf e := by
      simp only [Array.size_append, List.size_toArray, size_zeroCells, hsz, hvl, ← hce, ← Nat.add_mul]
      congr 1; omega
    obtain ⟨id, ρ', m1, m2, m3, m4, m5, m6⟩ := after_new hR hle hnew (vs.toArray ++ Builtin.zeroCells zv.cells (grownCap w n 0 e - n)) e (0, 0) (.inl (Nat.le_refl _)) (by
        simp only [Array.size_append, List.size_toArray]; omega) (by rw [hA]; exact cells_of hv h1 _) (w.drawn + 1)
    exact ok_value (hexec _ _ hr') ⟨⟨.sl id 0 0 n (P.cellsOf e) n, ρ', _, _, m2, ⟨_, m3, Nat.le_refl _, .inl ⟨_, rfl, hg, by simp only [hAs]; omega, grownCap_le_maxLen w n 0 e hmax, hg⟩⟩, m1, m4, m5, m6⟩⟩
  split at hop
  · -- nil
    rename_i hxe
    rw [hxe] at hx
    have ex : a.eval x = .slice none 0 0 := hx
    split at hop
    · rename_i h0
      obtain ⟨_, _⟩ := hzero (hlz.1 h0)
      have hn0 := hlz.1 h0
      refine ok_value (hexec (.slice none 0 0) w ?_) (after_same hR hle (x := .nils) rfl hop)
      rw [ex, ey, hn0]
      exact run_append_zero ht ⟨it, hit⟩ (Nat.le_refl _)
    · rename_i h0
      rw [hdiv] at hop
      obtain ⟨hb, hmax, hnew⟩ := hop
      have hn0 : n ≠ 0 := fun hh => h0 (hlz.2 hh)
      refine fresh .nilFunc [] rfl (fun ad' ey' hr => ?_) hn0 hmax hnew
      rw [ex]
      exact run_append_nil w t o.type e it zv ht hit hzv ad' n cap' vs (by rw [hvl, hce]) hr (by omega) (by simp only [maxLen] at hmax; omega) (by rw [← hbe]; omega)
  · -- of no room
    rename_i hxe
    rw [hxe] at hx
    obtain ⟨ax, ex⟩ := hx
    split at hop
    · rename_i h0
      have hn0 := hlz.1 h0
      refine ok_value (hexec (.slice (some ax) 0 0) w ?_) (after_same hR hle (x := .sz) ⟨ax, rfl⟩ hop)
      rw [ex, ey, hn0]
      exact run_append_zero ht ⟨it, hit⟩ (Nat.le_refl _)
    · rename_i h0
      rw [hdiv] at hop
      obtain ⟨hb, hmax, hnew⟩ := hop
      have hn0 : n ≠ 0 := fun hh => h0 (hlz.2 hh)
      refine fresh .nilFunc [] rfl (fun ad' ey' hr => ?_) hn0 hmax hnew
      rw [ex]
      have := run_append_grow (P := P) w t o.type e it zv ht hit hzv ax 0 0 [] (by simp) (by simp) ad' n cap' vs (by rw [hvl, hce]) hr (by omega) (by simp only [maxLen] at hmax; omega) (growslice_fits (by omega) (by rw [← hbe]; simpa using hb))
      simpa using this
  · -- one's own
    rename_i id g off len es cp' hxe
    split at hop
    case h_2 => exact hop.elim
    rename_i b hb
    split at hop
    case h_2 => exact hop.elim
    rename_i hi hg
    rw [hdiv] at hop
    obtain ⟨rfl, hown, hend, hbytes, hmax, hK⟩ := hop
    rw [hxe] at hx
    have hm := mem_of_lookup hg
    have hH := hle id b hb
    have hnx : ρ id b.next = none := (hR.blk id b hH).nxt _ (Nat.le_refl _)
    have hfin : ∀ (r : Value) (w' : World) (L' : Loc), (Builtin.append_ #[t, t] o.type #[a.eval x, a.eval y]).run P w = .ok r w' → R w0 (ρ.put id b.next L') (upd H id (appBlk b (off + len * P.cellsOf e) cs)) w' →
        VRel (ρ.put id b.next L') (.sl id b.next off (len + n) (P.cellsOf e) (len + n)) r → OpOk P w0 ρ h H K o a w Q := fun r w' L' hr hRr hv' =>
      ok_value (hexec r w' hr) ⟨⟨_, _, _, _, Locs.le_put L' hnx, hv', hK, upd_le _ hle, Fr.upd hb, hRr⟩⟩
    have hgrow : ∀ (ax : Addr) (L : Loc) (cap : Nat), a.eval x = .slice (some ax) len cap → ρ id g = some L → L.lo ≤ off → cap < len + n → (∃ os : List Value, os.length = len * P.cellsOf e ∧ VRels ρ ((b.cells.drop off).take (len * P.cellsOf e)) os ∧ (∀ u ∈ os, u.oneCell' = true) ∧
        ∀ j u, os[j]? = some u → w.cell? (ax.add j) = some u) → len ≤ cap → OpOk P w0 ρ h H K o a w Q := by
      rintro ax L cap ex hL hlo hgt ⟨os, ho1, ho2, ho3, ho4⟩ hlc
      have hn0 : n ≠ 0 := by omega
      obtain ⟨ad', ey', hr⟩ := hpos' hn0
      have hrun := run_append_grow (P := P) w t o.type e it zv ht hit hzv ax len cap os (by rw [ho1, hce]) ho4 ad' n cap' vs (by rw [hvl, hce]) hr hgt (by simp only [maxLen] at hmax; omega) (growslice_fits hgt (by rw [← hbe]; exact hbytes))
      have hge := grownCap_ge w (len + n) cap e
      have hRr := app_grow hR hH hown hm hL hend hlo ho2 ho3 hv h1 (Builtin.zeroCells zv.cells (grownCap w (len + n) cap e - (len + n))) e
      refine hfin _ _ _ (by rw [ex, ey']; exact hrun) hRr ⟨_, Locs.put_same .., Nat.le_refl _, .inl ⟨grownCap w (len + n) cap e, by simp, hge, ?_, grownCap_le_maxLen w (len + n) cap e hmax, hge⟩⟩
      simp only [Array.size_append, List.size_toArray, size_zeroCells, hsz, ho1, hvl, ← hce, ← Nat.add_mul, Nat.sub_self, Nat.zero_add]
      exact Nat.mul_le_mul_right _ (by omega)
    obtain ⟨L, hL, hlo, ⟨cap, ex, c1, c2, c3⟩ | ⟨rfl, _, ax, ex⟩⟩ := hx
    · by_cases hroom : len + n ≤ cap
      · have hmul : (len + n) * P.cellsOf e ≤ cap * P.cellsOf e := Nat.mul_le_mul_right _ hroom
        rw [Nat.add_mul] at hmul
        obtain ⟨r1, r2, r3⟩ := app_room hR hH hown hm hL hend (by omega) hv h1 (by rw [hcl, hvl]; omega)
        have hst : L.base + (off + len * P.cellsOf e - L.lo) = L.base + (off - L.lo) + len * P.cellsOf e := by omega
        rw [hst] at r1 r2 r3
        refine hfin (.slice (some ⟨L.blk, L.base + (off - L.lo), none⟩) (len + n) cap) _ L ?_ r3 ⟨L, Locs.put_same .., hlo, .inl ⟨cap, rfl, hroom, c2, c3.1, hroom⟩⟩
        rw [ex]
        by_cases h0 : n = 0
        · obtain ⟨_, rfl⟩ := hzero h0
          rw [ey, h0]
          exact run_append_zero ht ⟨it, hit⟩ (by omega)
        · obtain ⟨ad', ey', hr⟩ := hpos' h0
          rw [ey']
          have := run_append_room_cells (P := P) w t o.type e it ht hit L.blk (L.base + (off - L.lo)) len cap ad' n cap' vs (by rw [hvl, hce]) hr h1 hroom (by rw [← hce]; exact r1) (by rw [← hce]; exact r2)
          rw [← hce] at this
          exact this
      · refine hgrow _ L cap ex hL hlo (by omega) ?_ c1
        obtain ⟨os, q1, q2, q3, q4⟩ := read_cells hR hH hm hL (n := len * P.cellsOf e) hlo hend
        exact ⟨os, q1, q2, q3, fun j u hj => by rw [addr_add]; exact q4 j u hj⟩
    · by_cases h0 : n = 0
      · obtain ⟨rfl, rfl⟩ := hzero h0
        obtain ⟨_, _, r3⟩ := app_room hR hH hown hm hL hend (by omega) (xs := []) (vs := []) rfl (by simp) (by
          obtain ⟨_, L', _, _, _, k1, _, _, k4, _⟩ := (hR.blk id b hH).gen g hi hm
          rw [hL] at k1; cases k1
          simp only [List.length_nil]; omega)
        refine hfin (.slice (some ax) 0 0) w L ?_ r3 ⟨L, Locs.put_same .., hlo, .inr ⟨by omega, by omega, ax, rfl⟩⟩
        rw [ex, ey, h0]
        exact run_append_zero ht ⟨it, hit⟩ (Nat.le_refl _)
      · exact hgrow ax L 0 ex hL hlo (by omega) ⟨[], by simp, by simp [VRels], by simp, by simp⟩ (Nat.le_refl _)
  · exact hop.elim
end
end Go.Ab
