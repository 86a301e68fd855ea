/- What is proved: code may be read with its own variables taken out of the memory: operations on these, regions, code. -/
import Derived.Test.YtjhldpbpopjkiaaAdA
set_option linter.unusedVariables false
namespace Go.Ab

section
variable {P : Program} {C : CSem} {I : Bx} {ops : List Oper} {E : BEnv} {s' s : Slots} {h' h : AHeap} {β : Nat → Nat}

theorem al_some {v : AVal} {p : Prop} (h : A.al v p) : (∃ cs, v = .agg cs) ∧ p := by
  unfold A.al at h
  split at h
  · exact ⟨⟨_, rfl⟩, h⟩
  · exact h.elim

theorem okD_of {d : Option Nat} (hd : gNoneD d = true) : d = none := by
  cases d with
  | none => rfl
  | some _ => cases hd
theorem gNone_of {g : Gd} (hg : gNone g = true) : g = none := by
  cases g with
  | none => rfl
  | some _ => cases hg
theorem kNone_of {ks : List (Operand × TypeId)} (hk : kNone ks = true) : ks = [] := by
  cases ks with
  | nil => rfl
  | cons _ _ => cases hk

/-- A variable is made. -/
theorem new_sound {o : Oper} {d : Nat} {z : Option (List AVal)} {c : Option AVal} {K : BEnv → Slots → AHeap → Prop} (hR : RelB I s' h' s h β) (hE : EnvOk I ops E s' s β)
    (hd : o.dst = some d) (hb : memB I.bs d = true) (hlt : d < I.B) (hsh : stepSh P ops o s h = Sh.newO z fun id => .ptr id 0 0) (hc : ∀ v, c = some v → ∃ cs, v = .agg cs ∧ z = some cs) (hen : envB P I ops o E = killB ops d E) (hx : newB I ops d c E s' h' K) : Goal P C I ops o [] E s h K := by
  unfold newB at hx
  obtain ⟨v, h1, h2⟩ := pv_some hx
  obtain ⟨cs, rfl, rfl⟩ := hc v h1
  unfold Goal
  rw [hsh, hd, hen]
  intro id hid
  refine ⟨fun p hp => (by cases hp), _, h', fun k => bif Nat.beq k d then id else β k, ?_, ?_, h2⟩
  · have hne : ∀ {k cs'}, memB I.bs k = true → s' (I.B + k) = .agg cs' → β k ≠ id := fun hk hck e => by
      have := (hR.bx _ _ hk hck).2.1
      rw [e, hid] at this; cases this
    have hB : ∀ {k}, k ≠ d → putS s' (some (I.B + d)) (.agg cs) (I.B + k) = s' (I.B + k) := fun hk => putS_other _ _ (by omega)
    refine ⟨AHeap.le_trans hR.le (le_upd _ hid), fun k hk => ?_, fun k cs' hk hck => ?_, fun k e cs1 cs2 hk he hke hc1 hc2 => ?_⟩
    · have hk' := clean_spec hk
      rw [putS_other _ _ (by omega), putS_other]
      · exact hR.cl k hk
      · intro e; subst e; rw [hb] at hk'; exact absurd hk'.2.1 (by simp)
    · by_cases e : k = d
      · subst e
        rw [putS_same] at hck ⊢
        cases hck
        simp only [Nat.beq_refl, cond_true]
        refine ⟨trivial, upd_same .., ?_⟩
        cases e : h' id with
        | none => rfl
        | some b => rw [hR.le _ _ e] at hid; cases hid
      · rw [hB e] at hck
        obtain ⟨k1, k2, k3⟩ := hR.bx k cs' hk hck
        simp only [nbeq_false e, cond_false]
        refine ⟨?_, ?_, k3⟩
        · rw [putS_other _ _ e]; exact k1
        · rw [upd_other _ _ (hne hk hck)]; exact k2
    · show (bif Nat.beq k d then id else β k) ≠ bif Nat.beq e d then id else β e
      by_cases e1 : k = d
      · subst e1
        rw [hB (Ne.symm hke)] at hc2
        rw [Nat.beq_refl, nbeq_false (Ne.symm hke)]
        exact (hne he hc2).symm
      · by_cases e2 : e = d
        · subst e2
          rw [hB e1] at hc1
          rw [Nat.beq_refl, nbeq_false e1]
          exact hne hk hc1
        · rw [hB e1] at hc1
          rw [hB e2] at hc2
          rw [nbeq_false e1, nbeq_false e2]
          exact hR.ap k e cs1 cs2 hk he hke hc1 hc2
  · intro e g b off hm
    obtain ⟨k1, k2, k3, k4⟩ := killB_spec hm
    have a := hE _ _ _ _ k1
    refine ⟨a.inBs, a.inDs, a.noB, a.lt, ?_, ?_⟩
    · rw [putS_other _ _ (by omega)]; exact a.al
    · simp only [nbeq_false k3, cond_false]
      rw [putS_other _ _ k2]
      rcases a.at_ with e | ⟨e, j, x, t, e1, e2, e3⟩
      · exact .inl e
      · refine .inr ⟨e, j, x, t, e1, e2, ?_⟩
        rw [putS_other]
        · exact e3
        · intro hh; subst hh; exact k4 j x e1 e2

/-- A variable is read. -/
theorem load_sound {o : Oper} {t : TypeId} {x : Operand} {d off : Nat} {K : BEnv → Slots → AHeap → Prop} (hR : RelB I s' h' s h β) (hE : EnvOk I ops E s' s β) (ho : o.op = .load t x) (hp : I.place E o.guard x = some (d, off))
    (hd : I.okD o.dst = true) (hG : I.okG ops o.guard = true) (hen : envB P I ops o E = killO ops o.dst E) {u : TypeDesc} (hu : P.underlying t = some u)
    (hx : A.gdO ops o.guard s' h' (fun K => A.pv (bif isAggB P t then V.fieldN off (P.cellsOf t) (s' (I.B + d)) else V.field1 off (s' (I.B + d))) fun v => K v h') fun v h => K (killO ops o.dst E) (putS s' o.dst v) h) : Goal P C I ops o [] E s h K := by
  unfold Goal
  rw [hen]
  have fin : ∀ v, K (killO ops o.dst E) (putS s' o.dst v) h' → (A.keep h (keepsAt P s []) fun v h1 => ∃ s1' h1' β1, RelB I s1' h1' (putS s o.dst v) h1 β1 ∧ EnvOk I ops (killO ops o.dst E) s1' (putS s o.dst v) β1 ∧ K (killO ops o.dst E) s1' h1') v h := fun v hk =>
    ⟨fun p hp => (by cases hp), _, h', β, rel_put hR hd hR.le (Fr.refl h' h), env_kill hE hd, hk⟩
  rcases gd_cases (P := P) (o := o) hR hG hx with ⟨k1, k2, k3⟩ | ⟨k1, k2, k3⟩
  · obtain ⟨v, h1, h2⟩ := pv_some k2
    have hb := place_bs hE hp
    have hal : ∃ cs, s' (I.B + d) = .agg cs := by
      cases hs : s' (I.B + d) with
      | agg cs => exact ⟨cs, rfl⟩
      | _ => rw [hs] at h1; cases hg : isAggB P t <;> rw [hg] at h1 <;> simp [V.fieldN, V.field1] at h1
    obtain ⟨cs, hcs⟩ := hal
    have hv := place_spec hR hE hp hcs k3
    obtain ⟨_, m2, _⟩ := hR.bx d cs hb hcs
    rw [hcs] at h1
    rw [k1, ho]
    simp only [shOf, hu, hv]
    have e1 : A.ldnv h (.ptr (β d) 0 off) (P.cellsOf t) = V.fieldN off (P.cellsOf t) (.agg cs) := by
      simp only [A.ldnv, m2, blkOf, List.lookup, beq_self_eq_true, V.fieldN]
    have e2 : A.ldv h (.ptr (β d) 0 off) = V.field1 off (.agg cs) := by
      simp only [A.ldv, m2, blkOf, List.lookup, beq_self_eq_true, V.field1]
      split
      · rfl
      · rw [List.getElem?_eq_none (by omega)]
    rw [e1, e2]
    have : (bif isAggB P t then Sh.pv (V.fieldN off (P.cellsOf t) (.agg cs)) else Sh.pv (V.field1 off (.agg cs))) = .val v := by
      cases hg : isAggB P t <;> rw [hg] at h1 <;> simp only [cond_true, cond_false] at h1 ⊢ <;> rw [h1] <;> rfl
    rw [this]
    exact fin v h2
  · rw [k1]; exact fin _ k2

theorem put1_len {off : Nat} {v : AVal} {cs cs' : List AVal} (h : V.put1 off v cs = some cs') : off < cs.length ∧ cs'.length = cs.length := by
  unfold V.put1 at h
  cases hv : v.isCell with
  | false => rw [hv] at h; cases h
  | true =>
    rw [hv] at h
    simp only [cond_true] at h
    split at h
    · rename_i hlt; cases h; exact ⟨hlt, by simp⟩
    · cases h
theorem putN_len {off n : Nat} {v : AVal} {cs cs' : List AVal} (h : V.putN off n v cs = some cs') : off + n ≤ cs.length ∧ cs'.length = cs.length := by
  unfold V.putN at h
  split at h
  · split at h
    · rename_i hh; cases h; exact ⟨hh.2, by simp; omega⟩
    · cases h
  · cases h

theorem sh_st_blk {id off n : Nat} {cs cs' : List AVal} {f : List AVal → Option (List AVal)} (hb : h id = some (blkOf cs)) (hf : f cs = some cs') (hle : off + n ≤ cs.length) (hl : cs'.length = cs.length) :
    Sh.st h (.ptr id 0 off) f n 0 .undef = .heap id (blkOf cs') .undef := by
  have h1 : Nat.ble (0 + off + n) cs.length = true := by rw [Nat.ble_eq]; omega
  simp only [Sh.st, hb, blkOf, List.lookup, beq_self_eq_true, Bool.true_and, h1, cond_true, hf, hl]

theorem keepsOff_spec {d : Nat} (hR : RelB I s' h' s h β) (hE : EnvOk I ops E s' s β) : ∀ (ks : List (Operand × TypeId)) (p : Prop), keepsOff I E d s' ks p →
    p ∧ ∀ q ∈ ks, ∃ d' off' cs2, memB I.bs d' = true ∧ d' ≠ d ∧ s' (I.B + d') = .agg cs2 ∧ evS s q.1 = .ptr (β d') 0 off'
  | [], p, hx => ⟨hx, fun _ h => (by cases h)⟩
  | (x, ty) :: r, p, hx => by
    simp only [keepsOff] at hx
    split at hx
    · rename_i d' off' hpl
      cases he : Nat.beq d' d with
      | true => rw [he] at hx; exact hx.elim
      | false =>
        rw [he] at hx
        obtain ⟨⟨cs2, hcs2⟩, hx⟩ := al_some hx
        obtain ⟨k1, k2⟩ := keepsOff_spec hR hE r p hx
        refine ⟨k1, fun q hq => ?_⟩
        rcases List.mem_cons.1 hq with rfl | hq
        · exact ⟨d', off', cs2, place_bs hE hpl, (fun e => by rw [e, Nat.beq_refl] at he; cases he), hcs2, place_any hR hE hpl hcs2⟩
        · exact k2 q hq
    · exact hx.elim

/-- A variable is turned. -/
theorem store_sound' {o : Oper} {t : TypeId} {x y : Operand} {d off : Nat} {ks : List (Operand × TypeId)} {K : BEnv → Slots → AHeap → Prop} (hR : RelB I s' h' s h β) (hE : EnvOk I ops E s' s β) (ho : o.op = .store t x y) (hg : o.guard = none) (hp : I.place E none x = some (d, off))
    (hy : I.okO y = true) (hd : o.dst = none) (hen : envB P I ops o E = E)
    (hx : keepsOff I E d s' ks (bif isAggB P t then A.pv (V.setN off (P.cellsOf t) (evS s' y) (s' (I.B + d))) fun c => K E (putS s' (some (I.B + d)) c) h'
        else bif Nat.beq (P.cellsOf t) 1 then A.pv (V.setF off (evS s' y) (s' (I.B + d))) fun c => K E (putS s' (some (I.B + d)) c) h' else False)) : Goal P C I ops o ks E s h K := by
  have hb := place_bs hE hp
  obtain ⟨hx, hkk⟩ := keepsOff_spec hR hE ks _ hx
  have hal : ∃ cs cs', s' (I.B + d) = .agg cs ∧ cs'.length = cs.length ∧ K E (putS s' (some (I.B + d)) (.agg cs')) h' ∧ (evS s x = .ptr (β d) 0 off → h (β d) = some (blkOf cs) → stepSh P ops o s h = .heap (β d) (blkOf cs') .undef) := by
    rw [ops_clean hR hy] at hx
    have hst : stepSh P ops o s h = shOf P o.op (evS s) h := by unfold stepSh; rw [hg]
    rw [hst, ho]
    cases hA : isAggB P t with
    | true =>
      rw [hA] at hx
      obtain ⟨c, h1, h2⟩ := pv_some hx
      cases hs : s' (I.B + d) <;> rw [hs] at h1 <;> (try (simp [V.setN] at h1; done))
      rename_i cs
      simp only [V.setN] at h1
      split at h1 <;> (try (cases h1; done))
      rename_i cs' hput
      cases h1
      obtain ⟨l1, l2⟩ := putN_len hput
      refine ⟨cs, cs', rfl, l2, h2, fun hv hbk => ?_⟩
      simp only [shOf, hA, cond_true, hv, A.ptrOff]
      exact sh_st_blk hbk hput l1 l2
    | false =>
      rw [hA] at hx
      simp only [cond_false] at hx
      cases h1c : Nat.beq (P.cellsOf t) 1 with
      | false => rw [h1c] at hx; exact hx.elim
      | true =>
        rw [h1c] at hx
        obtain ⟨c, h1, h2⟩ := pv_some hx
        cases hs : s' (I.B + d) <;> rw [hs] at h1 <;> (try (simp [V.setF] at h1; done))
        rename_i cs
        simp only [V.setF] at h1
        split at h1 <;> (try (cases h1; done))
        rename_i cs' hput
        cases h1
        obtain ⟨l1, l2⟩ := put1_len hput
        refine ⟨cs, cs', rfl, l2, h2, fun hv hbk => ?_⟩
        simp only [shOf, hA, h1c, cond_true, cond_false, hv, A.ptrOff]
        exact sh_st_blk hbk hput (by omega) l2
  obtain ⟨cs, cs', hcs, hl, hK, hsh⟩ := hal
  have hv := place_any hR hE hp hcs
  obtain ⟨m1, m2, m3⟩ := hR.bx d cs hb hcs
  unfold Goal
  rw [hsh hv m2, hd, hen]
  refine ⟨fun p hp' => ?_, _, h', β, ?_, ?_, hK⟩
  · simp only [keepsAt, List.mem_map] at hp'
    obtain ⟨q, hq, rfl⟩ := hp'
    obtain ⟨d', off', cs2, n1, n2, n3, n4⟩ := hkk q hq
    rw [n4]
    exact sameAt_of (id := β d') (.inr ⟨off', rfl⟩) (upd_other _ _ (hR.ap d' d cs2 cs n1 hb n2 n3 hcs))
  · have hB : ∀ {k}, k ≠ d → putS s' (some (I.B + d)) (.agg cs') (I.B + k) = s' (I.B + k) := fun hk => putS_other _ _ (by omega)
    have hag : ∀ {k cs1}, putS s' (some (I.B + d)) (.agg cs') (I.B + k) = .agg cs1 → ∃ cs2, s' (I.B + k) = .agg cs2 := fun {k cs1} hk => by
      by_cases e : k = d
      · subst e; exact ⟨cs, hcs⟩
      · rw [hB e] at hk; exact ⟨cs1, hk⟩
    refine ⟨fun id b hb1 => ?_, fun k hk => ?_, fun k cs1 hk hck => ?_, fun k e cs1 cs2 hk he hke hc1 hc2 => ?_⟩
    · rw [upd_other]
      · exact hR.le id b hb1
      · intro e; subst e; rw [m3] at hb1; cases hb1
    · have := clean_spec hk
      rw [putS_other _ _ (by omega)]; exact hR.cl k hk
    · by_cases e : k = d
      · subst e
        rw [putS_same] at hck
        cases hck
        exact ⟨m1, upd_same .., m3⟩
      · rw [hB e] at hck
        obtain ⟨k1, k2, k3⟩ := hR.bx k cs1 hk hck
        exact ⟨k1, by rw [upd_other _ _ (hR.ap k d cs1 cs hk hb e hck hcs)]; exact k2, k3⟩
    · obtain ⟨a, ha⟩ := hag hc1
      obtain ⟨b, hb2⟩ := hag hc2
      exact hR.ap k e a b hk he hke ha hb2
  · intro e g b off' hm
    have a := hE _ _ _ _ hm
    refine ⟨a.inBs, a.inDs, a.noB, a.lt, ?_, a.at_⟩
    by_cases e' : b = d
    · subst e'; exact ⟨cs', putS_same ..⟩
    · rw [putS_other _ _ (by omega)]; exact a.al

/-- A place within a variable. -/
theorem der_sound {o : Oper} {x : Operand} {d off off' : Nat} {K : BEnv → Slots → AHeap → Prop} (hR : RelB I s' h' s h β) (hE : EnvOk I ops E s' s β) (hp : I.place E o.guard x = some (d, off))
    (hsh : evS s x = .ptr (β d) 0 off → shOf P o.op (evS s) h = .val (.ptr (β d) 0 off')) (hok : chkD I ops o [] = true) (hen : ∀ e, o.dst = some e → envB P I ops o E = (e, o.guard, d, off') :: killB ops e E) (hx : derB I ops o d off' E s' h' K) : Goal P C I ops o [] E s h K := by
  unfold derB at hx
  cases hd : o.dst with
  | none => rw [hd] at hx; exact hx.elim
  | some e =>
    rw [hd] at hx
    simp only at hx
    simp only [chkD, hd, kNone, Bool.true_and, Bool.and_eq_true, Bool.not_eq_true', Nat.blt_eq] at hok
    obtain ⟨o1, o2, o3, hG⟩ := hok
    obtain ⟨⟨cs, hcs⟩, hx⟩ := al_some hx
    have hb := place_bs hE hp
    have heB : e < I.B := o3
    have hrel : ∀ v, RelB I (putS s' (some e) .undef) h' (putS s (some e) v) h β := fun v => by
      have hcl : ∀ k, I.clean k = true → k ≠ e := fun k hk he => by
        subst he
        have := clean_spec hk
        rw [o1] at this; exact absurd this.2.2 (by simp)
      have hBs : ∀ k, memB I.bs k = true → k ≠ e := fun k hk he => by subst he; rw [o2] at hk; cases hk
      have hB : ∀ k, putS s' (some e) .undef (I.B + k) = s' (I.B + k) := fun k => putS_other _ _ (by omega)
      refine ⟨hR.le, fun k hk => ?_, fun k cs1 hk hck => ?_, fun k e' cs1 cs2 hk he hke hc1 hc2 => ?_⟩
      · rw [putS_other _ _ (hcl k hk), putS_other _ _ (hcl k hk)]; exact hR.cl k hk
      · rw [hB] at hck
        rw [putS_other _ _ (hBs k hk)]; exact hR.bx k cs1 hk hck
      · rw [hB] at hc1 hc2
        exact hR.ap k e' cs1 cs2 hk he hke hc1 hc2
    have henv : ∀ v, (v = .ptr (β d) 0 off' ∨ (v = .tup [] ∧ NotHeld ops (putS s (some e) v) o.guard)) → EnvOk I ops ((e, o.guard, d, off') :: killB ops e E) (putS s' (some e) .undef) (putS s (some e) v) β := fun v hv => by
      intro e' g b o' hm
      rcases List.mem_cons.1 hm with hm | hm
      · cases hm
        refine ⟨hb, o1, o2, heB, ⟨cs, ?_⟩, ?_⟩
        · rw [putS_other _ _ (by omega)]; exact hcs
        · rw [putS_same]
          rcases hv with hv | hv
          · exact .inl hv
          · exact .inr hv
      · obtain ⟨k1, k2, k3, k4⟩ := killB_spec hm
        have a := hE _ _ _ _ k1
        refine ⟨a.inBs, a.inDs, a.noB, a.lt, ?_, ?_⟩
        · rw [putS_other _ _ (by omega)]; exact a.al
        · rw [putS_other _ _ k2]
          rcases a.at_ with e' | ⟨e', j, x, t, e1, e2, e3⟩
          · exact .inl e'
          · refine .inr ⟨e', j, x, t, e1, e2, ?_⟩
            rw [putS_other]
            · exact e3
            · intro hh; subst hh; exact k4 j x e1 e2
    unfold Goal
    rw [hen e hd]
    rcases gd_cases (P := P) (o := o) hR hG hx with ⟨k1, k2, k3⟩ | ⟨k1, k2, k3⟩
    · rw [k1, hsh (place_spec hR hE hp hcs k3), hd]
      exact ⟨fun p hp => (by cases hp), _, h', β, hrel _, henv _ (.inl rfl), k2⟩
    · rw [k1, hd]
      refine ⟨fun p hp => (by cases hp), _, h', β, hrel _, henv _ (.inr ⟨rfl, ?_⟩), k2⟩
      obtain ⟨j, x, t, e1, e2, e3⟩ := k3
      refine ⟨j, x, t, e1, e2, ?_⟩
      rw [putS_other]
      · exact e3
      · intro he
        subst he
        rw [e1] at hG
        simp only [Bx.okG, e2] at hG
        have := clean_spec hG
        rw [o1] at this; exact absurd this.2.2 (by simp)

theorem step_sound' (hC : CGood C) {o : Oper} {ks : List (Operand × TypeId)} {K : BEnv → Slots → AHeap → Prop} (hR : RelB I s' h' s h β) (hE : EnvOk I ops E s' s β) (hk : chkS I ops o ks E = true) (hx : stepB P C I ops o ks E s' h' K) : Goal P C I ops o ks E s h K := by
  have gen : chkG I ops o = true → envB P I ops o E = killO ops o.dst E → genB P C I ops o ks E s' h' K → Goal P C I ops o ks E s h K := gen_sound hC hR hE
  have sh0 : o.guard = none → stepSh P ops o s h = shOf P o.op (evS s) h := fun hg => by unfold stepSh; rw [hg]
  unfold stepB at hx
  unfold chkS at hk
  split at hx
  · rename_i t ho
    simp only [ho] at hk
    cases hd : o.dst with
    | none => simp only [hd] at hx hk; exact gen hk (by simp only [envB, ho, hd]) hx
    | some d =>
      simp only [hd] at hx hk
      cases hb : memB I.bs d with
      | false => simp only [hb, cond_false] at hx hk; exact gen hk (by simp only [envB, ho, hd, hb, cond_false]) hx
      | true =>
        simp only [hb, cond_true, Bool.and_eq_true, Nat.blt_eq] at hx hk
        have hks := kNone_of hk.2.1
        subst hks
        refine new_sound (z := zeroOf P t) hR hE hd hb hk.2.2 ?_ (fun v hv => ?_) (by simp only [envB, ho, hd, hb, cond_true]) hx
        · rw [sh0 (gNone_of hk.1), ho]; rfl
        · unfold optAgg at hv
          split at hv
          · rename_i cs hz; cases hv; exact ⟨cs, rfl, hz⟩
          · cases hv
  · rename_i t x ho
    simp only [ho] at hk
    cases hd : o.dst with
    | none => simp only [hd] at hx hk; exact gen hk (by simp only [envB, ho, hd]) hx
    | some d =>
      simp only [hd] at hx hk
      cases hb : memB I.bs d with
      | false => simp only [hb, cond_false] at hx hk; exact gen hk (by simp only [envB, ho, hd, hb, cond_false]) hx
      | true =>
        simp only [hb, cond_true, Bool.and_eq_true, Nat.blt_eq] at hx hk
        have hks := kNone_of hk.2.1
        subst hks
        rw [ops_clean hR hk.2.2.2] at hx
        refine new_sound (z := bif isAggB P t then A.cellsN (P.cellsOf t) (evS s x) else A.cells1 (evS s x)) hR hE hd hb hk.2.2.1 ?_ (fun v hv => ?_) (by simp only [envB, ho, hd, hb, cond_true]) hx
        · rw [sh0 (gNone_of hk.1), ho]; rfl
        · cases hA : isAggB P t with
          | true =>
            rw [hA] at hv
            simp only [cond_true] at hv ⊢
            unfold A.boxN at hv
            split at hv
            · rename_i cs hc
              split at hv
              · rename_i hl
                cases hv
                exact ⟨cs, rfl, by rw [hc]; simp only [A.cellsN, hl, if_true]⟩
              · cases hv
            · cases hv
          | false =>
            rw [hA] at hv
            simp only [cond_false, A.box1, A.cells1] at hv ⊢
            cases hc : (evS s x).isCell with
            | true => rw [hc] at hv; cases hv; exact ⟨_, rfl, rfl⟩
            | false => rw [hc] at hv; cases hv
  · rename_i t x ho
    simp only [ho] at hk
    split at hx
    · rename_i d off hp
      simp only [hp, Bool.and_eq_true] at hk
      have hks := kNone_of hk.1
      subst hks
      split at hx
      · exact hx.elim
      · rename_i u hu
        exact load_sound hR hE ho hp hk.2.1 hk.2.2 (by simp only [envB, ho]) hu hx
    · rename_i hp
      simp only [hp] at hk
      exact gen hk (by simp only [envB, ho]) hx
  · rename_i t x y ho
    simp only [ho] at hk
    split at hx
    · rename_i d off hp
      simp only [hp, Bool.and_eq_true] at hk
      have hg := gNone_of hk.1
      refine store_sound' hR hE ho hg (by rw [← hg]; exact hp) hk.2.1 (okD_of hk.2.2) (by simp only [envB, ho, hp]) hx
    · rename_i hp
      simp only [hp] at hk
      exact gen hk (by simp only [envB, ho, hp]) hx
  · rename_i t x f ho
    simp only [ho] at hk
    split at hx
    · rename_i d off hp
      simp only [hp] at hk
      have hks : ks = [] := by
        simp only [chkD, Bool.and_eq_true] at hk
        exact kNone_of hk.1
      subst hks
      split at hx <;> (try exact hx.elim)
      rename_i fs hu
      split at hx <;> (try exact hx.elim)
      rename_i fd hfd
      cases hz : Nat.beq (P.cellsOf fd.type) 0 with
      | true => rw [hz] at hx; exact hx.elim
      | false =>
        rw [hz] at hx
        refine der_sound hR hE hp (fun hv => ?_) hk (fun e hd => by simp only [envB, ho, hp, hu, hfd, hd]) hx
        rw [ho]
        simp only [shOf, hu, hfd, hz, cond_false, hv, V.fieldAddr, Sh.pv]
    · rename_i hp
      simp only [hp] at hk
      exact gen hk (by simp only [envB, ho, hp]) hx
  · rename_i x ho
    simp only [ho] at hk
    split at hx
    · rename_i d off hp
      simp only [hp] at hk
      have hks : ks = [] := by
        simp only [chkD, Bool.and_eq_true] at hk
        exact kNone_of hk.1
      subst hks
      refine der_sound hR hE hp (fun hv => ?_) hk (fun e hd => by simp only [envB, ho, hp, hd]) hx
      rw [ho]
      simp only [shOf, hv, Sh.nilCheck]
    · rename_i hp
      simp only [hp] at hk
      exact gen hk (by simp only [envB, ho, hp]) hx
  · rename_i n1 n2 n3 n4 n5 n6
    cases ho : o.op <;> (try (simp only [ho] at hk; exact gen hk (by simp only [envB, ho]) hx)) <;> simp_all

/-- What is left to show of what follows. -/
def Back (I : Bx) (Q : Slots → AHeap → Prop) : Slots → AHeap → Prop := fun s h => ∃ s' h' β, RelB I s' h' s h β ∧ Q s' h'

theorem opsB_plain (hC : CGood C) {Q : Slots → AHeap → Prop} : ∀ (l : List Oper) {E : BEnv} {s' s : Slots} {h' h : AHeap} {β : Nat → Nat}, RelB I s' h' s h β → EnvOk I ops E s' s β → chkO P I ops (plain l) E = true → opsB P C I ops (plain l) Q E s' h' → opsWp P C ops l (Back I Q) s h
  | [], _, _, _, _, _, β, hR, _, _, hx => ⟨_, _, β, hR, hx⟩
  | o :: r, _, _, _, _, _, _, hR, hE, hk, hx => stepWp_sh.2 (sh_mono hC.mono (fun _ _ ⟨_, _, _, _, k1, k2, k3⟩ => opsB_plain hC r k1 k2 (Bool.and_eq_true_iff.1 hk).2 k3) (step_sound' hC hR hE (Bool.and_eq_true_iff.1 hk).1 hx))
theorem opsB_drawn (hC : CGood C) {Q : Slots → AHeap → Prop} : ∀ (l : List (Item × List (Operand × TypeId))) {E : BEnv} {s' s : Slots} {h' h : AHeap} {β : Nat → Nat}, RelB I s' h' s h β → EnvOk I ops E s' s β → chkO P I ops (drawn l) E = true → opsB P C I ops (drawn l) Q E s' h' → opsWpD P C ops l (Back I Q) s h
  | [], _, _, _, _, _, β, hR, _, _, hx => ⟨_, _, β, hR, hx⟩
  | (t, ks) :: r, _, _, _, _, _, _, hR, hE, hk, hx => (stepWpD_sh hC.mono).2 (sh_mono hC.mono (fun _ _ ⟨k0, _, _, _, k1, k2, k3⟩ => ⟨k0, opsB_drawn hC r k1 k2 (Bool.and_eq_true_iff.1 hk).2 k3⟩) (step_sound' hC hR hE (Bool.and_eq_true_iff.1 hk).1 hx))
end

theorem natsEq_spec : ∀ {a b : List Nat}, natsEq a b = true → a = b
  | [], [], _ => rfl
  | x :: r, y :: s, h => by
    simp only [natsEq, Bool.and_eq_true] at h
    rw [nbeq_eq h.1, natsEq_spec h.2]
  | [], _ :: _, h => by cases h
  | _ :: _, [], h => by cases h
theorem natssEq_spec : ∀ {a b : List (List Nat)}, natssEq a b = true → a = b
  | [], [], _ => rfl
  | x :: r, y :: s, h => by
    simp only [natssEq, Bool.and_eq_true] at h
    rw [natsEq_spec h.1, natssEq_spec h.2]
  | [], _ :: _, h => by cases h
  | _ :: _, [], h => by cases h

theorem opAt_item {P : Program} {ops : Array Oper} {t : Item} (ht : t ∈ items P ops.toList) : opAt ops.toList t.i = t.o := by
  have := (item_spec ht).1
  unfold opAt
  rw [show ops.toList[t.i]? = some t.o by simpa using this]; rfl
theorem keeps_lit {P : Program} {ops : Array Oper} {y : Item} : ∀ {l : List Item}, (∀ t ∈ l, t ∈ items P ops.toList) → keepsOf l y = loadsAt ops.toList (keepsI l y)
  | [], _ => rfl
  | x :: r, h => by
    have ih := keeps_lit (y := y) (l := r) (fun t ht => h t (List.mem_cons_of_mem _ ht))
    have hx := opAt_item (h x (List.mem_cons_self ..))
    simp only [keepsOf, keepsI]
    rw [ih]
    cases ho : x.o.op <;> (try rfl)
    simp only
    cases y.m.testBit x.i with
    | true => rfl
    | false => simp only [cond_false, List.singleton_append, loadsAt, hx, ho]
theorem drawn_lit {P : Program} {ops : Array Oper} : ∀ (p seen : List Item), (∀ t ∈ seen, t ∈ items P ops.toList) → (∀ t ∈ p, t ∈ items P ops.toList) → ∀ pl : List (Nat × List Nat), p.map (fun t => t.i) = pl.map (fun q => q.1) → withKeepsI seen p = pl.map (fun q => q.2) →
    drawn (withKeeps seen p) = litOf ops.toList pl
  | [], _, _, _, [], _, _ => rfl
  | [], _, _, _, _ :: _, h, _ => by simp at h
  | _ :: _, _, _, _, [], h, _ => by simp at h
  | y :: r, seen, hs, hp, (i, js) :: pl, h1, h2 => by
    simp only [List.map_cons, List.cons.injEq, withKeepsI] at h1 h2
    have ih := drawn_lit r (seen ++ [y]) (fun t ht => by
      rcases List.mem_append.1 ht with ht | ht
      · exact hs t ht
      · rw [List.mem_singleton.1 ht]; exact hp y (List.mem_cons_self ..)) (fun t ht => hp t (List.mem_cons_of_mem _ ht)) pl h1.2 h2.2
    have hy := opAt_item (hp y (List.mem_cons_self ..))
    show (y.o, bif y.k.isEffect then keepsOf seen y else []) :: drawn (withKeeps (seen ++ [y]) r) = (opAt ops.toList i, loadsAt ops.toList js) :: litOf ops.toList pl
    rw [ih, ← h1.1, hy, ← h2.1, keeps_lit hs]
    cases y.k.isEffect <;> rfl
theorem planLit_spec {P : Program} {ops : Array Oper} {pl : List (Nat × List Nat)} (h : planLit P ops pl = true) : ∃ l, plan P ops = some l ∧ drawn l = litOf ops.toList pl := by
  unfold planLit at h
  split at h
  · rename_i l hp
    refine ⟨l, hp, ?_⟩
    simp only [Bool.and_eq_true] at h
    have hl : ∃ p, l = withKeeps [] p ∧ ∀ t ∈ p, t ∈ items P ops.toList := by
      unfold plan at hp
      simp only [Bool.cond_eq_ite] at hp
      split at hp
      · cases hp; exact ⟨_, rfl, fun t ht => plan_mem ht⟩
      · cases hp
    obtain ⟨p, rfl, hm⟩ := hl
    have e1 := natsEq_spec h.1
    have e2 := natssEq_spec h.2
    have em : (withKeeps [] p).map (fun t => t.1) = p := withKeeps_map [] p
    rw [em] at e2
    refine drawn_lit p [] (fun _ h => by cases h) hm pl ?_ e2
    rw [← e1]
    conv => lhs; rw [← em]
    rw [List.map_map]; rfl
  · cases h

def BackE (I : Bx) (Q : Ex → Slots → AHeap → Prop) : Ex → Slots → AHeap → Prop := fun e => Back I (Q e)

theorem bwp_sound {P : Program} {C : CSem} {I : Bx} (hC : CGood C) : ∀ (c : Code), chkC P I c = true → ∀ {Q : Ex → Slots → AHeap → Prop} {s' s : Slots} {h' h : AHeap} {β : Nat → Nat}, RelB I s' h' s h β → bwp P C I c Q s' h' → awp P C c (BackE I Q) s h
  | .skip, _, _, _, _, _, _, β, hR, x => ⟨_, _, β, hR, x⟩
  | .ret, _, _, _, _, _, _, β, hR, x => ⟨_, _, β, hR, x⟩
  | .exit _, _, _, _, _, _, _, β, hR, x => ⟨_, _, β, hR, x⟩
  | .region _ ops false, hk, _, _, _, _, _, _, hR, x => opsB_plain hC ops.toList hR (fun _ _ _ _ h => (by cases h)) hk x
  | .region k ops true, hk, Q, s', s, h', h, β, hR, x => by
    simp only [bwp] at x
    simp only [chkC] at hk
    simp only [awp]
    split at x
    · rename_i pl hp
      simp only [hp, Bool.and_eq_true] at hk
      obtain ⟨l, h2, h3⟩ := planLit_spec hk.1
      have hk2 := hk.2
      rw [← h3] at x hk2
      simp only [h2]
      exact opsB_drawn hC _ hR (fun _ _ _ _ h => (by cases h)) hk2 x
    · exact x.elim
  | .seq a b, hk, Q, s', s, h', h, β, hR, x => by
    simp only [chkC, Bool.and_eq_true] at hk
    refine awp_mono hC.mono a (fun e s h ⟨s', h', β, k1, k2⟩ => ?_) (bwp_sound hC a hk.1 hR x)
    cases e with
    | normal => exact bwp_sound hC b hk.2 k1 k2
    | exit _ => exact ⟨s', h', β, k1, k2⟩
    | ret => exact ⟨s', h', β, k1, k2⟩
  | .cond c a b, hk, Q, s', s, h', h, β, hR, x => by
    simp only [chkC, Bool.and_eq_true] at hk
    simp only [bwp] at x
    rw [ops_clean hR hk.1] at x
    simp only [awp, A.cond] at x ⊢
    split at x
    · exact ⟨fun e => bwp_sound hC a hk.2.1 hR (x.1 e), fun e => bwp_sound hC b hk.2.2 hR (x.2 e)⟩
    · exact x.elim
  | .block id b, hk, Q, s', s, h', h, β, hR, x => awp_mono hC.mono b (fun e s h ⟨s', h', β, k1, k2⟩ => by
      cases e with
      | normal => exact ⟨s', h', β, k1, k2⟩
      | ret => exact ⟨s', h', β, k1, k2⟩
      | exit j =>
        simp only [Ex.inBlock] at k2 ⊢
        cases hj : Nat.beq j id with
        | true => rw [hj] at k2; exact ⟨s', h', β, k1, k2⟩
        | false => rw [hj] at k2; exact ⟨s', h', β, k1, k2⟩) (bwp_sound hC b hk hR x)
  | .loop c, hk, Q, s', s, h', h, β, hR, x => fun X hX => by
    refine x (fun s' h' => ∀ s h β, RelB I s' h' s h β → X s h) (fun s1' h1' y s1 h1 β1 hR1 => hX s1 h1 ?_) s h β hR
    refine awp_mono hC.mono c (fun e s h ⟨s', h', β, k1, k2⟩ => ?_) (bwp_sound hC c hk hR1 y)
    cases e with
    | normal => exact k2 s h β k1
    | exit _ => exact ⟨s', h', β, k1, k2⟩
    | ret => exact ⟨s', h', β, k1, k2⟩
  | .rangeFunc .., _, _, _, _, _, _, _, _, x => x.elim
  | .scope _, _, _, _, _, _, _, _, _, x => x.elim
  | .label _, _, _, _, _, _, _, _, _, x => x.elim
  | .goto _, _, _, _, _, _, _, _, _, x => x.elim
  | .refuse _, _, _, _, _, _, _, _, _, x => x.elim

theorem resB_sound {P : Program} {I : Bx} {s' s : Slots} {h' h : AHeap} {β : Nat → Nat} (hR : RelB I s' h' s h β) : ∀ (rs : List ResultVar) (l : List AVal), resB P I h' s' rs = some l → resS P h s rs = some l
  | [], l, e => e
  | .tmp t :: r, l, e => by
    simp only [resB] at e
    cases hc : I.clean t with
    | false => rw [hc] at e; cases e
    | true =>
      rw [hc, cond_true, hR.cl t hc] at e
      simp only [resS]
      cases hr : resB P I h' s' r with
      | none => rw [hr] at e; simp [joinV] at e
      | some l' => rw [hr] at e; rw [resB_sound hR r l' hr]; exact e
  | .cell t ty :: r, l, e => by
    simp only [resB] at e
    simp only [resS]
    have go : ∀ o o', (∀ v, o = some v → o' = some v) → joinV o (resB P I h' s' r) = some l → joinV o' (resS P h s r) = some l := fun o o' ho e => by
      cases hr : resB P I h' s' r with
      | none => rw [hr] at e; cases o <;> simp [joinV] at e
      | some l' =>
        rw [hr] at e
        cases o with
        | none => simp [joinV] at e
        | some v => rw [ho v rfl, resB_sound hR r l' hr]; exact e
    cases hb : memB I.bs t with
    | true =>
      rw [hb, cond_true] at e
      split at e
      · cases e
      · rename_i u hu
        refine go _ _ (fun v hv => ?_) e
        have hal : ∃ cs, s' (I.B + t) = .agg cs := by
          cases hs : s' (I.B + t) with
          | agg cs => exact ⟨cs, rfl⟩
          | _ => rw [hs] at hv; cases hg : isAggB P ty <;> rw [hg] at hv <;> simp [V.fieldN, V.field1] at hv
        obtain ⟨cs, hcs⟩ := hal
        obtain ⟨m1, m2, _⟩ := hR.bx t cs hb hcs
        rw [hcs] at hv
        simp only [resCell, hu, m1]
        have e1 : A.ldnv h (.ptr (β t) 0 0) (P.cellsOf ty) = V.fieldN 0 (P.cellsOf ty) (.agg cs) := by
          simp only [A.ldnv, m2, blkOf, List.lookup, beq_self_eq_true, V.fieldN]
        have e2 : A.ldv h (.ptr (β t) 0 0) = V.field1 0 (.agg cs) := by
          simp only [A.ldv, m2, blkOf, List.lookup, beq_self_eq_true, V.field1]
          split
          · rfl
          · rw [List.getElem?_eq_none (by omega)]
        rw [e1, e2]; exact hv
    | false =>
      rw [hb, cond_false] at e
      cases hc : I.clean t with
      | false => rw [hc] at e; cases e
      | true =>
        rw [hc, cond_true, hR.cl t hc] at e
        refine go _ _ (fun v hv => ?_) e
        unfold resCell at hv ⊢
        split at hv
        · cases hv
        · rename_i u hu
          cases hA : isAggB P ty with
          | true => rw [hA] at hv; exact ldnv_le hR.le hv
          | false => rw [hA] at hv; exact ldv_le hR.le hv

theorem AC_introB {P : Program} (hm : P.follows .mixedOrders = true) {f : FuncId} {fn : Func} {c : Code} {I : Bx} (hf : P.funcs[f]? = some fn) (hb : fn.body = some c) (hcall : ∀ (va : Array Value) (w : World), (callFunc f va).run P w = .ok (.enter f va) w)
    (hc : codeIn fn.ntmps c = true) {args : List AVal} (hl : args.length ≤ fn.ntmps) (hB : args.length ≤ I.B) (hk : chkC P I c = true) {h : AHeap} {Q : AVal → AHeap → Prop} (hx : bwp P (AC P) I c (retB P I fn.results.toList Q) (startS args) h) : AC P f args h Q := by
  refine AC_drop (AC_intro hm hf hb hcall hc hl ?_)
  have hR : RelB I (startS args) h (startS args) h (fun k => k) := by
    have h0 : ∀ d cs, startS args (I.B + d) ≠ .agg cs := fun d cs e => by
      simp only [startS, List.getD] at e
      rw [List.getElem?_eq_none (by omega)] at e
      cases e
    exact ⟨AHeap.le_refl h, fun _ _ => rfl, fun d cs _ e => absurd e (h0 d cs), fun d e cs cs' _ _ _ hc _ => absurd hc (h0 d cs)⟩
  refine awp_mono (AC_good P).mono c (fun e s h ⟨s', h', β, k1, k2⟩ => ?_) (bwp_sound (AC_good P) c hk hR hx)
  have fin : A.pv (oneOf (resB P I h' s' fn.results.toList)) (fun v => Q v h') → A.pv (resV P h s fn.results.toList) fun v => ∃ h', Q v h' ∧ h'.le h := fun hk => by
    obtain ⟨v, e1, e2⟩ := pv_some hk
    cases hr : resB P I h' s' fn.results.toList with
    | none => rw [hr] at e1; cases e1
    | some l =>
      rw [hr] at e1
      have := resB_sound k1 _ _ hr
      unfold resV
      rw [this, e1]
      exact ⟨h', e2, k1.le⟩
  cases e with
  | normal => exact fin k2
  | ret => exact fin k2
  | exit _ => exact k2
end Go.Ab
