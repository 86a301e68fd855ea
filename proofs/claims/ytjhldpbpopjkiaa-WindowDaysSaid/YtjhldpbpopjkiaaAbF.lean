/- What is proved: the values that quiet operations of the model yield are those that are told in the abstract memory. -/
import Derived.Test.YtjhldpbpopjkiaaAbE
import Derived.Lib.Strings
namespace Go.Ab
open Go.RowKit (Below)

section
variable {P : Program} {ρ : Locs} {w : World}

/-! A value's shape, from what is told of it. -/
theorem rel_ptr {id g off : Nat} {v : Value} (h : VRel ρ (.ptr id g off) v) : ∃ L, ρ id g = some L ∧ L.lo ≤ off ∧ v = .pointer (some ⟨L.blk, L.base + (off - L.lo), none⟩) := h
theorem addr_add (b o n : Nat) : (⟨b, o, none⟩ : Addr).add n = ⟨b, o + n, none⟩ := by unfold Addr.add; split <;> simp_all
theorem addr_add_none (a : Addr) (n : Nat) (h : a.spot = none) : a.add n = ⟨a.block, a.off + n, none⟩ := by
  obtain ⟨b, o, s⟩ := a; simp at h; subst h; exact addr_add b o n

theorem eqGuard_flat (op : BinOp) (t : TypeId) (x y : Operand) (a b : Value) (h1 : a ≠ .nilIface) (h2 : ∀ c, a ≠ .agg c) : (eqGuard op t x y a b).run P w = .ok () w := by
  unfold eqGuard
  cases op <;> simp <;> (split <;> simp_all)

theorem bin_run {op : BinOp} {t : TypeId} {x y r : AVal} {u v : Value} (hx : VRel ρ x u) (hy : VRel ρ y v) (h : V.bin op x y = some r) :
    (∀ a b, (eqGuard op t a b u v).run P w = .ok () w) ∧ ∃ z, (binOp op t u v).run P w = .ok z w ∧ VRel ρ r z := by
  unfold V.bin at h
  split at h
  · -- integers
    rename_i k a j b
    cases hx; cases hy
    refine ⟨fun _ _ => eqGuard_flat _ _ _ _ _ _ (by simp) (by simp), ?_⟩
    have ar : ∀ op', op' ≠ .shl → op' ≠ .shr → (if k = j then V.arith op' k a b else none) = some r → ∃ z, (binOp op' t (.int k a) (.int j b)).run P w = .ok z w ∧ VRel ρ r z := by
      intro op' n1 n2 hh
      split at hh
      · rename_i hkj
        subst hkj
        cases op'
        case quo =>
          simp only [V.arith] at hh
          split at hh
          · cases hh
          · rename_i hz
            cases hh
            exact ⟨_, by simp only [binOp, Op.intDiv, ne_eq, not_true, if_false, hz, Sem.run_pure], rfl⟩
        case rem =>
          simp only [V.arith] at hh
          split at hh
          · cases hh
          · rename_i hz
            cases hh
            exact ⟨_, by simp only [binOp, Op.intDiv, ne_eq, not_true, if_false, hz, Sem.run_pure], rfl⟩
        case shl => exact absurd rfl n1
        case shr => exact absurd rfl n2
        all_goals
          simp only [V.arith, Option.some.injEq] at hh
          subst hh
          exact ⟨_, by simp only [binOp, Op.intArith, Op.intBits, Op.intCmp, ne_eq, not_true, if_false, Sem.run_pure], rfl⟩
      · cases hh
    have sh : ∀ op', (op' = .shl ∨ op' = .shr) → V.shift op' k a b = some r → ∃ z, (binOp op' t (.int k a) (.int j b)).run P w = .ok z w ∧ VRel ρ r z := by
      intro op' ho hh
      unfold V.shift at hh
      split at hh
      · cases hh
      · rename_i hb
        rcases ho with rfl | rfl <;> simp at hh <;> subst hh <;> simp [binOp, Op.shift, hb, VRel]
    cases op <;> first | exact sh _ (by simp) h | exact ar _ (by simp) (by simp) h
  · rename_i a b
    obtain ⟨s, rfl, rfl⟩ := hx
    obtain ⟨s', rfl, rfl⟩ := hy
    refine ⟨fun _ _ => eqGuard_flat _ _ _ _ _ _ (by simp) (by simp), ?_⟩
    have hl : ∀ s : ByteArray, s.toList = s.data.toList := fun s => by
      exact Lib.toList_data s
    cases op <;> simp only [V.strOp] at h
    case add =>
      split at h
      · cases h
      · rename_i hb
        simp only [Option.some.injEq] at h
        subst h
        refine ⟨.string (s ++ s'), ?_, _, rfl, by simp⟩
        have : ¬ ((s.size + s'.size : Nat) : Int) > IntKind.i64.max := hb
        simp only [binOp, Op.stringOp]
        rw [if_neg this]
        rfl
    all_goals cases h
    all_goals exact ⟨_, by simp only [binOp, Op.stringOp, hl, Sem.run_pure], rfl⟩
  · cases h

theorem eqv_some {op : BinOp} {e : Bool} {r : AVal} (h : V.eqv op e = some r) : (op = .eql ∧ r = .bool e) ∨ (op = .neq ∧ r = .bool !e) := by
  cases op <;> simp [V.eqv] at h <;> simp [h.symm]

/-- '==', '!=' that go by the type. -/
theorem eq_run {op : BinOp} {t : TypeId} {e : Bool} {r : AVal} {u v : Value} (h : V.eqv op e = some r) (hne : ∀ op', op' = .eql ∨ op' = .neq → binOp op' t u v = (match op' with
      | .neq => (do pure (.bool (!(← Op.equal t u v)))) | _ => (do pure (.bool (← Op.equal t u v)))))
    (he : (Op.equal t u v).run P w = .ok e w) : ∃ z, (binOp op t u v).run P w = .ok z w ∧ VRel ρ r z := by
  rcases eqv_some h with ⟨rfl, rfl⟩ | ⟨rfl, rfl⟩
  · exact ⟨.bool e, by rw [hne .eql (.inl rfl)]; simp [he], rfl⟩
  · exact ⟨.bool (!e), by rw [hne .neq (.inr rfl)]; simp [he], rfl⟩

theorem run_equal1 {t : TypeId} {u v : Value} {e : Bool} (h : ∀ d, (Op.equalIn (d + 1) t u v).run P w = .ok e w) : (Op.equal t u v).run P w = .ok e w := h 9999

theorem eqBool_run {op : BinOp} {t : TypeId} {x y r : AVal} {u v : Value} (ht : P.underlying t = some .bool) (hx : VRel ρ x u) (hy : VRel ρ y v) (h : V.eqBool op x y = some r) :
    (∀ a b, (eqGuard op t a b u v).run P w = .ok () w) ∧ ∃ z, (binOp op t u v).run P w = .ok z w ∧ VRel ρ r z := by
  unfold V.eqBool at h
  split at h
  · cases hx; cases hy
    refine ⟨fun _ _ => eqGuard_flat _ _ _ _ _ _ (by simp) (by simp), eq_run h ?_ ?_⟩
    · rintro _ (rfl | rfl) <;> simp [binOp]
    · exact run_equal1 fun d => by simp [Op.equalIn, run_underlying ht]
  · cases h

theorem eqPtr_run {op : BinOp} {t e : TypeId} {x y r : AVal} {u v : Value} (ht : P.underlying t = some (.pointer e)) (hx : VRel ρ x u) (hy : VRel ρ y v) (h : V.eqPtr op x y = some r) :
    (∀ a b, (eqGuard op t a b u v).run P w = .ok () w) ∧ ∃ z, (binOp op t u v).run P w = .ok z w ∧ VRel ρ r z := by
  unfold V.eqPtr at h
  split at h
  · cases hx; cases hy
    refine ⟨fun _ _ => eqGuard_flat _ _ _ _ _ _ (by simp) (by simp), eq_run h ?_ ?_⟩
    · rintro _ (rfl | rfl) <;> simp [binOp]
    · exact run_equal1 fun d => by simp [Op.equalIn, run_underlying ht]
  · cases hx; obtain ⟨L, _, _, rfl⟩ := hy
    refine ⟨fun _ _ => eqGuard_flat _ _ _ _ _ _ (by simp) (by simp), eq_run h ?_ ?_⟩
    · rintro _ (rfl | rfl) <;> simp [binOp]
    · exact run_equal1 fun d => by simp [Op.equalIn, run_underlying ht]
  · cases hy; obtain ⟨L, _, _, rfl⟩ := hx
    refine ⟨fun _ _ => eqGuard_flat _ _ _ _ _ _ (by simp) (by simp), eq_run h ?_ ?_⟩
    · rintro _ (rfl | rfl) <;> simp [binOp]
    · exact run_equal1 fun d => by simp [Op.equalIn, run_underlying ht]
  · cases h

theorem rel_sl {id g off len es cp : Nat} {v : Value} (h : VRel ρ (.sl id g off len es cp) v) : ∃ a c, v = .slice (some a) len c := by
  obtain ⟨L, _, _, h⟩ := h
  rcases h with ⟨c, e, _⟩ | ⟨rfl, _, a, e⟩
  · exact ⟨_, _, e⟩
  · exact ⟨_, _, e⟩

theorem eqSl_run {op : BinOp} {t e : TypeId} {x y r : AVal} {u v : Value} (ht : P.underlying t = some (.slice e)) (hx : VRel ρ x u) (hy : VRel ρ y v) (h : V.eqSl op x y = some r) :
    (∀ a b, (eqGuard op t a b u v).run P w = .ok () w) ∧ ∃ z, (binOp op t u v).run P w = .ok z w ∧ VRel ρ r z := by
  unfold V.eqSl at h
  split at h
  · cases hx; cases hy
    refine ⟨fun _ _ => eqGuard_flat _ _ _ _ _ _ (by simp) (by simp), eq_run h ?_ ?_⟩
    · rintro _ (rfl | rfl) <;> simp [binOp]
    · exact run_equal1 fun d => by simp [Op.equalIn, run_underlying ht]
  · cases hx; obtain ⟨_, _, rfl⟩ := rel_sl hy
    refine ⟨fun _ _ => eqGuard_flat _ _ _ _ _ _ (by simp) (by simp), eq_run h ?_ ?_⟩
    · rintro _ (rfl | rfl) <;> simp [binOp]
    · exact run_equal1 fun d => by simp [Op.equalIn, run_underlying ht]
  · cases hy; obtain ⟨_, _, rfl⟩ := rel_sl hx
    refine ⟨fun _ _ => eqGuard_flat _ _ _ _ _ _ (by simp) (by simp), eq_run h ?_ ?_⟩
    · rintro _ (rfl | rfl) <;> simp [binOp]
    · exact run_equal1 fun d => by simp [Op.equalIn, run_underlying ht]
  · cases hx; obtain ⟨a, rfl⟩ := hy
    refine ⟨fun _ _ => eqGuard_flat _ _ _ _ _ _ (by simp) (by simp), eq_run h ?_ ?_⟩
    · rintro _ (rfl | rfl) <;> simp [binOp]
    · exact run_equal1 fun d => by simp [Op.equalIn, run_underlying ht]
  · cases hy; obtain ⟨a, rfl⟩ := hx
    refine ⟨fun _ _ => eqGuard_flat _ _ _ _ _ _ (by simp) (by simp), eq_run h ?_ ?_⟩
    · rintro _ (rfl | rfl) <;> simp [binOp]
    · exact run_equal1 fun d => by simp [Op.equalIn, run_underlying ht]
  · cases h

theorem eqFn_run {op : BinOp} {t : TypeId} {ps rs : Array TypeId} {vr : Bool} {x y r : AVal} {u v : Value} (ht : P.underlying t = some (.func ps rs vr)) (hx : VRel ρ x u) (hy : VRel ρ y v) (h : V.eqFn op x y = some r) :
    (∀ a b, (eqGuard op t a b u v).run P w = .ok () w) ∧ ∃ z, (binOp op t u v).run P w = .ok z w ∧ VRel ρ r z := by
  unfold V.eqFn at h
  split at h
  · cases hx; cases hy
    refine ⟨fun _ _ => eqGuard_flat _ _ _ _ _ _ (by simp) (by simp), eq_run h ?_ ?_⟩
    · rintro _ (rfl | rfl) <;> simp [binOp]
    · exact run_equal1 fun d => by simp [Op.equalIn, run_underlying ht]
  · cases hx; obtain ⟨_, _, rfl, _⟩ := hy
    refine ⟨fun _ _ => eqGuard_flat _ _ _ _ _ _ (by simp) (by simp), eq_run h ?_ ?_⟩
    · rintro _ (rfl | rfl) <;> simp [binOp]
    · exact run_equal1 fun d => by simp [Op.equalIn, run_underlying ht]
  · cases hy; obtain ⟨_, _, rfl, _⟩ := hx
    refine ⟨fun _ _ => eqGuard_flat _ _ _ _ _ _ (by simp) (by simp), eq_run h ?_ ?_⟩
    · rintro _ (rfl | rfl) <;> simp [binOp]
    · exact run_equal1 fun d => by simp [Op.equalIn, run_underlying ht]
  · cases h
end

end Go.Ab
