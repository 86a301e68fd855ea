/- What is proved: structs are compared cell by cell. -/
import Derived.Test.YtjhldpbpopjkiaaAbF
import Derived.Laws.StructEq
namespace Go.Ab

section
variable {P : Program} {ρ : Locs}

theorem VRels.drop : ∀ {as : List AVal} {l : List Value} (n : Nat), VRels ρ as l → VRels ρ (as.drop n) (l.drop n)
  | _, _, 0, h => h
  | [], _, _ + 1, e => by subst e; simp [VRels]
  | _ :: _, _, n + 1, ⟨_, _, e, _, h⟩ => by subst e; exact VRels.drop n h
theorem VRels.take : ∀ {as : List AVal} {l : List Value} (n : Nat), VRels ρ as l → VRels ρ (as.take n) (l.take n)
  | _, _, 0, _ => by simp [VRels]
  | [], _, _ + 1, e => by subst e; simp [VRels]
  | _ :: _, _, n + 1, ⟨u, us, e, h1, h⟩ => by subst e; exact ⟨u, us.take n, rfl, h1, VRels.take n h⟩

theorem eqCells_length : ∀ {cs : List Ck} {as bs : List AVal} {e : Bool}, V.eqCells cs as bs = some e → as.length = cs.length ∧ bs.length = cs.length
  | [], [], [], _, _ => ⟨rfl, rfl⟩
  | [], [], _ :: _, _, h | [], _ :: _, _, _, h | _ :: _, [], _, _, h | _ :: _, _ :: _, [], _, h => by simp [V.eqCells] at h
  | c :: cs, a :: as, b :: bs, e, h => by
    simp only [V.eqCells] at h
    split at h
    · rename_i x y h1 h2
      have := eqCells_length h2
      simp [this]
    · cases h

theorem eqCells_append : ∀ {c1 c2 : List Ck} {as bs : List AVal} {e : Bool}, V.eqCells (c1 ++ c2) as bs = some e →
    ∃ e1 e2, V.eqCells c1 (as.take c1.length) (bs.take c1.length) = some e1 ∧ V.eqCells c2 (as.drop c1.length) (bs.drop c1.length) = some e2 ∧ e = (e1 && e2)
  | [], _, as, bs, e, h => ⟨true, e, by simp [V.eqCells], by simpa using h, by simp⟩
  | _ :: _, _, [], _, _, h | _ :: _, _, _ :: _, [], _, h => by simp [V.eqCells] at h
  | c :: c1, c2, a :: as, b :: bs, e, h => by
    simp only [List.cons_append, V.eqCells] at h
    split at h
    · rename_i x y h1 h2
      obtain ⟨e1, e2, k1, k2, rfl⟩ := eqCells_append h2
      refine ⟨x && e1, e2, by simp [V.eqCells, h1, k1], by simpa using k2, ?_⟩
      cases h
      cases x <;> simp
    · cases h

theorem contig_le : ∀ {fs : List Field} {n m : Nat}, contig P fs n = some m → n ≤ m
  | [], _, _, h => by simp [contig] at h; omega
  | f :: fs, n, m, h => by
    simp only [contig] at h
    split at h
    · have := contig_le h; omega
    · cases h

theorem joinC_cons {x : Option (List Ck)} {r : List (Option (List Ck))} {l : List Ck} (h : joinC (x :: r) = some l) : ∃ a b, x = some a ∧ joinC r = some b ∧ l = a ++ b := by
  cases x with
  | none => simp [joinC] at h
  | some a =>
    simp only [joinC] at h
    split at h
    · rename_i m hm; cases h; exact ⟨a, m, rfl, hm, rfl⟩
    · cases h

/-- What is shown of a type by its shape: its parts, at any place in a row, are compared as told. -/
def EqAtS (P : Program) (ρ : Locs) (D : Nat) (t : TypeId) (sh : List Ck) : Prop :=
  sh.length = P.cellsOf t ∧ ∀ (as bs : List AVal) (xs ys : List Value) (n : Nat) (e : Bool) (w : World), VRels ρ as xs → VRels ρ bs ys →
    V.eqCells sh ((as.drop n).take sh.length) ((bs.drop n).take sh.length) = some e →
    ∃ a b, (part t xs.toArray n).run P w = .ok a w ∧ (part t ys.toArray n).run P w = .ok b w ∧ (Op.equalIn D t a b).run P w = .ok e w

theorem eqFields_run {d : Nat} : ∀ (fs : List Field) (sh : List Ck) (n m : Nat), (∀ f ∈ fs, f.name ≠ "_") → contig P fs n = some m →
    joinC (fs.map fun f => shapeAt P d f.type) = some sh → ∀ D, (∀ f ∈ fs, ∀ s, shapeAt P d f.type = some s → EqAtS P ρ D f.type s) →
    n + sh.length = m ∧ ∀ (as bs : List AVal) (xs ys : List Value) (e : Bool) (w : World), VRels ρ as xs → VRels ρ bs ys →
    V.eqCells sh ((as.drop n).take sh.length) ((bs.drop n).take sh.length) = some e → (Op.eqFields D xs.toArray ys.toArray fs).run P w = .ok e w
  | [], sh, n, m, _, hc, hj, D, _ => by
    simp [contig] at hc
    simp [joinC] at hj
    subst hj
    refine ⟨by simpa using hc, fun as bs xs ys e w _ _ h => ?_⟩
    simp [V.eqCells] at h
    subst h
    simp [Op.eqFields]
  | f :: fs, sh, n, m, hn, hc, hj, D, hall => by
    simp only [contig] at hc
    split at hc
    · rename_i hoff
      obtain ⟨s1, s2, h1, h2, rfl⟩ := joinC_cons hj
      obtain ⟨hl, hf⟩ := hall f (by simp) s1 h1
      obtain ⟨hm, ih⟩ := eqFields_run fs s2 (n + P.cellsOf f.type) m (fun g hg => hn g (by simp [hg])) hc h2 D (fun g hg => hall g (by simp [hg]))
      refine ⟨by simp only [List.length_append]; omega, fun as bs xs ys e w hx hy h => ?_⟩
      obtain ⟨e1, e2, k1, k2, rfl⟩ := eqCells_append h
      rw [List.length_append] at k1 k2
      rw [List.take_take, Nat.min_eq_left (by omega), List.take_take, Nat.min_eq_left (by omega)] at k1
      rw [List.drop_take, List.drop_take, List.drop_drop, List.drop_drop, show s1.length + s2.length - s1.length = s2.length by omega, show n + s1.length = n + P.cellsOf f.type by omega] at k2
      obtain ⟨a, b, r1, r2, r3⟩ := hf as bs xs ys n e1 w hx hy k1
      have r4 := ih as bs xs ys e2 w hx hy k2
      simp only [Op.eqFields, hn f (by simp), ne_eq, not_false_eq_true, if_true, Sem.run_bind, hoff, r1, r2, r3, Result.andThen_ok]
      cases e1
      · simp
      · simp [r4]
    · cases hc

theorem run_part_one {t : TypeId} {d : TypeDesc} (ht : P.underlying t = some d) (hd : isAggB P t = false) {xs : List Value} {n : Nat} {u : Value} (h : xs[n]? = some u) (w : World) : (part t xs.toArray n).run P w = .ok u w := by
  unfold part
  simp only [Sem.run_bind, run_isAgg ht, Result.andThen_ok, hd]
  simp [h]

theorem shape_run : ∀ (d : Nat) (t : TypeId) (sh : List Ck), shapeAt P d t = some sh → ∀ D, EqAtS P ρ (D + d) t sh
  | 0, _, _, h, _ => by simp [shapeAt] at h
  | d + 1, t, sh, h, D => by
    have one : ∀ (c : Ck) (dd : TypeDesc), P.underlying t = some dd → isAggB P t = false → (bif Nat.beq (P.cellsOf t) 1 then some [c] else none) = some sh →
        (∀ a b u v e w, VRel ρ a u → VRel ρ b v → V.eqCell c a b = some e → (Op.equalIn (D + (d + 1)) t u v).run P w = .ok e w) → EqAtS P ρ (D + (d + 1)) t sh := by
      intro c dd ht ha hs k
      cases hb : Nat.beq (P.cellsOf t) 1 with
      | false => simp [hb] at hs
      | true =>
        simp only [hb, cond_true, Option.some.injEq] at hs
        subst hs
        refine ⟨by have := Nat.eq_of_beq_eq_true hb; simp [this], fun as bs xs ys n e w hx hy h => ?_⟩
        cases ha' : as.drop n with
        | nil => rw [ha'] at h; simp [V.eqCells] at h
        | cons a ra =>
          cases hb' : bs.drop n with
          | nil => rw [ha', hb'] at h; simp [V.eqCells] at h
          | cons b rb =>
            rw [ha', hb'] at h
            simp only [List.length_singleton, List.take_succ_cons, List.take_zero, V.eqCells] at h
            have ga : as[n]? = some a := by have := congrArg (·[0]?) ha'; simpa using this
            have gb : bs[n]? = some b := by have := congrArg (·[0]?) hb'; simpa using this
            obtain ⟨u, hu, ru⟩ := hx.get ga
            obtain ⟨v, hv, rv⟩ := hy.get gb
            refine ⟨u, v, run_part_one ht ha hu w, run_part_one ht ha hv w, ?_⟩
            split at h
            · rename_i x y h1 h2
              simp at h2 h
              subst h2
              rw [Bool.and_true] at h
              subst h
              exact k a b u v x w ru rv h1
            · cases h
    simp only [shapeAt] at h
    split at h
    · rename_i ht
      refine one .b _ ht (by simp [isAggB, ht]) h fun a b u v e w hu hv he => ?_
      unfold V.eqCell at he
      split at he <;> (try (cases he; done))
      · cases hu; cases hv; cases he; exact run_equalIn_bool w (D + d) t _ _ ht
      all_goals simp_all
    · rename_i k ht
      refine one (.i k) _ ht (by simp [isAggB, ht]) h fun a b u v e w hu hv he => ?_
      unfold V.eqCell at he
      split at he <;> (try (cases he; done))
      · simp_all
      · rename_i k' j x l y hk
        split at he
        · rename_i hh
          obtain ⟨rfl, rfl⟩ := hh
          cases hu; cases hv; cases he; exact run_equalIn_int w (D + d) t _ _ _ _ ht
        · cases he
      · simp_all
    · rename_i ht
      refine one .s _ ht (by simp [isAggB, ht]) h fun a b u v e w hu hv he => ?_
      unfold V.eqCell at he
      split at he <;> (try (cases he; done))
      · simp_all
      · simp_all
      · obtain ⟨s, rfl, rfl⟩ := hu
        obtain ⟨s', rfl, rfl⟩ := hv
        cases he
        rw [show D + (d + 1) = (D + d) + 1 by omega, run_equalIn_string w (D + d) t _ _ ht, Lib.toList_data, Lib.toList_data]
    · rename_i fs ht
      cases hb : (!P.stoodInHeld t && fs.toList.all (fun f => f.name != "_") && contig P fs.toList 0 == some (P.cellsOf t)) with
      | false => rw [hb, cond_false] at h; cases h
      | true =>
        rw [hb, cond_true] at h
        simp only [Bool.and_eq_true, Bool.not_eq_true', List.all_eq_true, bne_iff_ne, beq_iff_eq] at hb
        obtain ⟨⟨hst, hnm⟩, hcg⟩ := hb
        obtain ⟨hm, ih⟩ := eqFields_run (ρ := ρ) fs.toList sh 0 _ hnm hcg h (D + d) (fun f _ s hs => shape_run d f.type s hs D)
        refine ⟨by omega, fun as bs xs ys n e w hx hy he => ?_⟩
        have hft : P.underlying t = some (.struct (P.fieldsOf t)) := by simp [Program.fieldsOf, ht]
        have hfe : (P.fieldsOf t).toList = fs.toList := by simp [Program.fieldsOf, ht]
        have hag : isAggB P t = true := by simp [isAggB, ht]
        obtain ⟨i, hi⟩ := info_of_underlying ht
        have hsz : P.cellsOf t = i.size := cellsOf_eq hi
        have pr : ∀ zs : List Value, (part t zs.toArray n).run P w = .ok (.agg ((zs.drop n).take sh.length).toArray) w := fun zs => by
          unfold part
          simp only [Sem.run_bind, run_isAgg ht, Result.andThen_ok, hag, if_true, run_sizeOf hi, Sem.run_pure]
          congr 2
          apply Array.ext'
          simp only [List.extract_toArray, List.extract_eq_take_drop]
          rw [show n + i.size - n = sh.length by omega]
        refine ⟨_, _, pr xs, pr ys, ?_⟩
        rw [show D + (d + 1) = (D + d) + 1 by omega, run_equalIn_struct w (D + d) t _ _ hft hst, hfe]
        exact ih _ _ _ _ e w (hx.drop n |>.take sh.length) (hy.drop n |>.take sh.length) (by simpa [List.take_take] using he)
    · cases h

theorem binAgg_run {op : BinOp} {t : TypeId} {fs : Array Field} {sh : List Ck} {x y r : AVal} {u v : Value} {w : World} (ht : P.underlying t = some (.struct fs)) (hs : plainEq P t = some sh)
    (hx : VRel ρ x u) (hy : VRel ρ y v) (h : V.binAgg op sh x y = some r) :
    (∀ a b, (eqGuard op t a b u v).run P w = .ok () w) ∧ ∃ z, (binOp op t u v).run P w = .ok z w ∧ VRel ρ r z := by
  unfold V.binAgg at h
  split at h
  · rename_i as bs
    split at h
    · rename_i e he
      unfold plainEq at hs
      cases hg : P.eqGuardType P.depth t with
      | true => simp [hg] at hs
      | false =>
        simp only [hg, cond_false] at hs
        obtain ⟨xs, rfl, hxs, _⟩ := hx
        obtain ⟨ys, rfl, hys, _⟩ := hy
        refine ⟨fun _ _ => run_eqGuard_agg w _ _ _ _ _ _ hg, eq_run h ?_ ?_⟩
        · rintro _ (rfl | rfl) <;> simp [binOp]
        · obtain ⟨l1, l2⟩ := eqCells_length he
          obtain ⟨hl, hh⟩ := shape_run (ρ := ρ) 8 t sh hs 9992
          obtain ⟨a, b, r1, r2, r3⟩ := hh as bs xs ys 0 e w hxs hys (by simpa [List.take_of_length_le, l1, l2] using he)
          have hag : isAggB P t = true := by simp [isAggB, ht]
          obtain ⟨i, hi⟩ := info_of_underlying ht
          have pr : ∀ zs : List Value, zs.length = sh.length → (part t zs.toArray 0).run P w = .ok (.agg zs.toArray) w := fun zs hz => by
            unfold part
            simp only [Sem.run_bind, run_isAgg ht, Result.andThen_ok, hag, if_true, run_sizeOf hi, Sem.run_pure]
            congr 2
            apply Array.ext'
            have := cellsOf_eq hi
            simp [List.take_of_length_le (show zs.length ≤ i.size by omega)]
          rw [pr xs (by rw [← hxs.length]; exact l1)] at r1
          rw [pr ys (by rw [← hys.length]; exact l2)] at r2
          cases r1; cases r2
          exact r3
    · cases h
  · cases h
end
end Go.Ab
