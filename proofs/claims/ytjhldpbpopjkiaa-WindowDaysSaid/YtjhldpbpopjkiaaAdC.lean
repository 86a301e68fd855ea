/- What is proved: the reading without one's own variables is monotone, leaves slots that are not written, and may be taken in pieces. -/
import Derived.Test.YtjhldpbpopjkiaaAdB
set_option linter.unusedVariables false
namespace Go.Ab

section
variable (P : Program) (I : Bx) (ops : List Oper)
/-- The slots that it writes. -/
def wrB (o : Oper) (E : BEnv) : List Nat :=
  match o.op with
  | .alloc _ | .box _ _ => match o.dst with
    | some d => bif memB I.bs d then [I.B + d] else [d]
    | none => []
  | .store _ x _ => match I.place E o.guard x with
    | some (d, _) => [I.B + d]
    | none => o.dst.toList
  | _ => o.dst.toList
def writesO : List (Oper × List (Operand × TypeId)) → BEnv → List Nat
  | [], _ => []
  | (o, _) :: r, E => wrB I o E ++ writesO r (envB P I ops o E)
end

def writesB (P : Program) (I : Bx) : Code → List Nat
  | .region _ ops false => writesO P I ops.toList (plain ops.toList) []
  | .region k ops true => match plOf k I.pl with
    | some l => writesO P I ops.toList (litOf ops.toList l) []
    | none => []
  | .seq a b => writesB P I a ++ writesB P I b
  | .cond _ a b => writesB P I a ++ writesB P I b
  | .block _ b => writesB P I b
  | .loop b => writesB P I b
  | _ => []

section
variable {P : Program} {C : CSem} {I : Bx} {ops : List Oper}

theorem gdO_mono {g : Gd} {s : Slots} {h : AHeap} {M : (AVal → AHeap → Prop) → Prop} {K K' : AVal → AHeap → Prop} (hM : M K → M K') (hk : ∀ v h, K v h → K' v h) (x : A.gdO ops g s h M K) : A.gdO ops g s h M K' := by
  unfold A.gdO at x ⊢
  split at x
  · exact hM x
  · split at x
    · unfold A.gd at x ⊢
      split at x
      · exact ⟨fun e => hM (x.1 e), fun e => hk _ _ (x.2 e)⟩
      · exact hk _ _ x
      · exact x
    · exact x
theorem pv_mono {o : Option AVal} {K K' : AVal → Prop} (hk : ∀ v, K v → K' v) (x : A.pv o K) : A.pv o K' := by
  unfold A.pv at x ⊢
  split at x
  · exact hk _ x
  · exact x
theorem al_mono {v : AVal} {p q : Prop} (hk : p → q) (x : A.al v p) : A.al v q := by
  unfold A.al at x ⊢
  split at x
  · exact hk x
  · exact x
theorem ok_mono {b : Bool} {p q : Prop} (hk : p → q) (x : A.ok b p) : A.ok b q := A.ok_iff.2 ⟨(A.ok_iff.1 x).1, hk (A.ok_iff.1 x).2⟩
theorem keepsB_mono {E : BEnv} {s : Slots} : ∀ {ks : List (Operand × TypeId)} {k k' : List (Operand × TypeId) → Prop}, (∀ l, k l → k' l) → keepsB I E s ks k → keepsB I E s ks k'
  | [], _, _, hk, x => hk _ x
  | (x, ty) :: r, k, k', hk, hx => by
    have other : ∀ {x}, keepsB I E s r (fun l => k ((x, ty) :: l)) → keepsB I E s r (fun l => k' ((x, ty) :: l)) := fun hx => keepsB_mono (fun l y => hk _ y) hx
    cases x <;> (try exact other hx)
    rename_i t
    simp only [keepsB] at hx ⊢
    cases hb : memB I.bs t with
    | true => rw [hb] at hx; exact al_mono (fun y => keepsB_mono hk y) hx
    | false =>
      rw [hb] at hx
      simp only [cond_false] at hx ⊢
      cases hc : I.clean t with
      | true => rw [hc] at hx; exact other hx
      | false =>
        rw [hc] at hx
        simp only [cond_false] at hx ⊢
        cases hm : memB (E.map (·.1)) t with
        | true => rw [hm] at hx; exact keepsB_mono hk hx
        | false => rw [hm] at hx; exact hx
theorem keepsOff_mono {E : BEnv} {d : Nat} {s : Slots} : ∀ {ks : List (Operand × TypeId)} {p q : Prop}, (p → q) → keepsOff I E d s ks p → keepsOff I E d s ks q
  | [], _, _, hk, x => hk x
  | (x, ty) :: r, p, q, hk, hx => by
    simp only [keepsOff] at hx ⊢
    split at hx
    · rename_i d' off hp
      cases hb : Nat.beq d' d with
      | true => rw [hb] at hx; exact hx.elim
      | false => rw [hb] at hx; exact al_mono (fun y => keepsOff_mono hk y) hx
    · exact hx

/-- A step, what it turns told. -/
theorem stepB_strong (hC : CMono C) {o : Oper} {ks : List (Operand × TypeId)} {E : BEnv} {s : Slots} {h : AHeap} {K K' : BEnv → Slots → AHeap → Prop}
    (hk : ∀ s1 h1, Agree (wrB I o E) s s1 → K (envB P I ops o E) s1 h1 → K' (envB P I ops o E) s1 h1) (x : stepB P C I ops o ks E s h K) : stepB P C I ops o ks E s h K' := by
  have put : ∀ (d : Option Nat) (v : AVal) (l : List Nat), d.toList = l → Agree l s (putS s d v) := fun d v l e => by
    subst e
    cases d with
    | none => exact Agree.refl _ _
    | some d => exact fun k hk => putS_other s v fun e => hk (by simp [e])
  have gen : envB P I ops o E = killO ops o.dst E → wrB I o E = o.dst.toList → genB P C I ops o ks E s h K → genB P C I ops o ks E s h K' := fun e1 e2 y => by
    unfold genB at y ⊢
    refine keepsB_mono (fun l z => ?_) y
    have hk' : ∀ v h1, K (killO ops o.dst E) (putS s o.dst v) h1 → K' (killO ops o.dst E) (putS s o.dst v) h1 := fun v h1 z => by
      rw [← e1]
      exact hk _ _ (put _ _ _ e2.symm) (by rw [e1]; exact z)
    cases l with
    | nil => exact stepWp_mono hC hk' z
    | cons q r => exact gdO_mono (fun z => opWp_sh.2 (sh_mono hC (fun v h1 ⟨a, b⟩ => ⟨a, hk' _ _ b⟩) (opWp_sh.1 z))) hk' z
  have der : ∀ (d off : Nat) (e : Nat), o.dst = some e → envB P I ops o E = (e, o.guard, d, off) :: killB ops e E → wrB I o E = o.dst.toList → derB I ops o d off E s h K → derB I ops o d off E s h K' := fun d off e hd e1 e2 y => by
    unfold derB at y ⊢
    rw [hd] at y ⊢
    refine al_mono (fun y => ?_) y
    have hk' : ∀ h1, K ((e, o.guard, d, off) :: killB ops e E) (putS s (some e) .undef) h1 → K' ((e, o.guard, d, off) :: killB ops e E) (putS s (some e) .undef) h1 := fun h1 z => by
      rw [← e1]
      exact hk _ _ (put _ _ _ (by rw [e2, hd])) (by rw [e1]; exact z)
    exact gdO_mono (hk' h) (fun _ h1 z => hk' h1 z) y
  unfold stepB at x ⊢
  unfold envB wrB at gen der hk
  cases ho : o.op with
  | alloc t =>
    rw [ho] at x gen hk
    simp only at x gen hk ⊢
    cases hd : o.dst with
    | none => rw [hd] at x gen; exact gen rfl rfl x
    | some d =>
      rw [hd] at x gen hk
      simp only at x gen hk ⊢
      cases hb : memB I.bs d with
      | false => rw [hb] at gen x; exact gen rfl rfl x
      | true =>
        rw [hb] at x hk
        exact pv_mono (fun v z => hk _ _ (put _ _ _ rfl) z) x
  | box t y =>
    rw [ho] at x gen hk
    simp only at x gen hk ⊢
    cases hd : o.dst with
    | none => rw [hd] at x gen; exact gen rfl rfl x
    | some d =>
      rw [hd] at x gen hk
      simp only at x gen hk ⊢
      cases hb : memB I.bs d with
      | false => rw [hb] at gen x; exact gen rfl rfl x
      | true =>
        rw [hb] at x hk
        exact pv_mono (fun v z => hk _ _ (put _ _ _ rfl) z) x
  | load t y =>
    rw [ho] at x gen hk
    simp only at x gen hk ⊢
    split at x
    · rename_i d off hp
      have y := x
      split at y
      · exact y.elim
      · rename_i u hu
        have hk' : ∀ v h1, K (killO ops o.dst E) (putS s o.dst v) h1 → K' (killO ops o.dst E) (putS s o.dst v) h1 := fun v h1 z => hk _ _ (put _ _ _ rfl) z
        exact gdO_mono (fun z => pv_mono (fun v z => hk' _ _ z) z) hk' y
    · rename_i hp
      exact gen (by trivial) (by trivial) x
  | store t y v =>
    rw [ho] at x gen hk
    simp only at x gen hk ⊢
    split at x
    · rename_i d off hp
      simp only [hp] at hk ⊢
      refine keepsOff_mono (fun y => ?_) x
      cases hA : isAggB P t with
      | true => rw [hA] at y; exact pv_mono (fun v z => hk _ _ (put _ _ _ rfl) z) y
      | false =>
        rw [hA] at y
        simp only [cond_false] at y ⊢
        cases h1 : Nat.beq (P.cellsOf t) 1 with
        | false => rw [h1] at y; exact y
        | true => rw [h1] at y; exact pv_mono (fun v z => hk _ _ (put _ _ _ rfl) z) y
    · rename_i hp
      simp only [hp] at gen ⊢
      exact gen (by trivial) (by trivial) x
  | fieldAddr t y f =>
    rw [ho] at x gen der hk
    simp only at x gen der hk ⊢
    split at x
    · rename_i d off hp
      simp only [hp] at der ⊢
      have y := x
      split at y <;> (try exact y.elim)
      rename_i fs hu
      simp only [hu] at der ⊢
      split at y <;> (try exact y.elim)
      rename_i fd hfd
      simp only [hfd] at der ⊢
      cases hz : Nat.beq (P.cellsOf fd.type) 0 with
      | true => rw [hz] at y; exact y
      | false =>
        rw [hz] at y
        simp only [cond_false] at y ⊢
        cases hd : o.dst with
        | none => simp only [derB, hd] at y
        | some e => exact der d _ e hd (by simp only [hd]) (by trivial) y
    · rename_i hp
      simp only [hp] at gen ⊢
      exact gen (by trivial) (by trivial) x
  | nilCheck y =>
    rw [ho] at x gen der hk
    simp only at x gen der hk ⊢
    split at x
    · rename_i d off hp
      simp only [hp] at der ⊢
      have y := x
      cases hd : o.dst with
      | none => simp only [derB, hd] at y
      | some e => exact der d _ e hd (by simp only [hd]) (by trivial) y
    · rename_i hp
      simp only [hp] at gen ⊢
      exact gen (by trivial) (by trivial) x
  | _ =>
    rw [ho] at x gen
    exact gen rfl rfl x

theorem opsB_agree (hC : CMono C) {Q Q' : Slots → AHeap → Prop} {L : List Nat} : ∀ (l : List (Oper × List (Operand × TypeId))) {E : BEnv} {s : Slots} {h : AHeap}, (∀ k ∈ writesO P I ops l E, k ∈ L) → (∀ s1 h1, Agree L s s1 → Q s1 h1 → Q' s1 h1) →
    opsB P C I ops l Q E s h → opsB P C I ops l Q' E s h
  | [], _, _, _, _, hq, x => hq _ _ (Agree.refl _ _) x
  | (o, ks) :: r, E, s, h, hl, hq, x => stepB_strong hC (fun s1 h1 ha y => opsB_agree hC r (fun k hk => hl k (List.mem_append_right _ hk)) (fun s2 h2 hb z => hq _ _ ((ha.mono fun k hk => hl k (List.mem_append_left _ hk)).trans hb) z) y) x

theorem bwp_agree (hC : CMono C) : ∀ (c : Code) {Q Q' : Ex → Slots → AHeap → Prop} {s : Slots} {h : AHeap}, (∀ e s1 h1, Agree (writesB P I c) s s1 → Q e s1 h1 → Q' e s1 h1) → bwp P C I c Q s h → bwp P C I c Q' s h
  | .skip, _, _, _, _, hq, x => hq _ _ _ (Agree.refl _ _) x
  | .ret, _, _, _, _, hq, x => hq _ _ _ (Agree.refl _ _) x
  | .exit _, _, _, _, _, hq, x => hq _ _ _ (Agree.refl _ _) x
  | .region _ ops false, _, _, _, _, hq, x => opsB_agree hC (plain ops.toList) (fun _ hk => hk) (fun s1 h1 ha y => hq _ _ _ ha y) x
  | .region _ ops true, Q, Q', s, h, hq, x => by
    simp only [bwp] at x ⊢
    simp only [writesB] at hq
    split at x
    · rename_i l hp
      simp only [hp] at hq ⊢
      exact opsB_agree hC (litOf ops.toList l) (fun _ hk => hk) (fun s1 h1 ha y => hq _ _ _ ha y) x
    · exact x.elim
  | .seq a b, Q, Q', s, h, hq, x => by
    refine bwp_agree hC a (fun e s1 h1 ha y => ?_) x
    have ha' : Agree (writesB P I (.seq a b)) s s1 := ha.mono fun k hk => List.mem_append_left _ hk
    cases e with
    | normal => exact bwp_agree hC b (fun e s2 h2 hb z => hq _ _ _ (ha'.trans (hb.mono fun k hk => List.mem_append_right _ hk)) z) y
    | exit _ => exact hq _ _ _ ha' y
    | ret => exact hq _ _ _ ha' y
  | .cond c a b, Q, Q', s, h, hq, x => by
    simp only [bwp] at x ⊢
    unfold A.cond at x ⊢
    split at x
    · exact ⟨fun e => bwp_agree hC a (fun _ _ _ ha y => hq _ _ _ (ha.mono fun k hk => List.mem_append_left _ hk) y) (x.1 e), fun e => bwp_agree hC b (fun _ _ _ ha y => hq _ _ _ (ha.mono fun k hk => List.mem_append_right _ hk) y) (x.2 e)⟩
    · exact x.elim
  | .block id b, Q, Q', s, h, hq, x => bwp_agree hC b (fun e s1 h1 ha y => by
      cases e with
      | normal => exact hq _ _ _ ha y
      | ret => exact hq _ _ _ ha y
      | exit j =>
        simp only [Ex.inBlock] at y ⊢
        cases hj : Nat.beq j id with
        | true => rw [hj] at y; exact hq _ _ _ ha y
        | false => rw [hj] at y; exact hq _ _ _ ha y) x
  | .loop c, Q, Q', s, h, hq, x => fun X hX => by
    refine x (fun s1 h1 => Agree (writesB P I c) s s1 → X s1 h1) (fun s1 h1 y ha => hX s1 h1 ?_) (Agree.refl _ _)
    refine bwp_agree hC c (fun e s2 h2 hb z => ?_) y
    cases e with
    | normal => exact z (ha.trans hb)
    | exit _ => exact hq _ _ _ (ha.trans hb) z
    | ret => exact hq _ _ _ (ha.trans hb) z
  | .rangeFunc .., _, _, _, _, _, x => x.elim
  | .scope _, _, _, _, _, _, x => x.elim
  | .label _, _, _, _, _, _, x => x.elim
  | .goto _, _, _, _, _, _, x => x.elim
  | .refuse _, _, _, _, _, _, x => x.elim

theorem seqB (hC : CMono C) {c a b : Code} {Q : Ex → Slots → AHeap → Prop} {X : Slots → AHeap → Prop} {s : Slots} {h : AHeap} (hc : c = .seq a b) (hb : ∀ s h, X s h → bwp P C I b Q s h) (ha : bwp P C I a (Ex.then X Q) s h) : bwp P C I c Q s h := by
  subst hc
  exact bwp_agree hC a (fun e s h _ y => by
    cases e with
    | normal => exact hb _ _ y
    | exit _ => exact y
    | ret => exact y) ha
theorem condB {c x y : Code} {o : Operand} {Q : Ex → Slots → AHeap → Prop} {p q : Prop} {s : Slots} {h : AHeap} (hc : c = .cond o x y) (hx : p → bwp P C I x Q s h) (hy : q → bwp P C I y Q s h) (hr : A.cond (evS s o) p q) : bwp P C I c Q s h := by
  subst hc
  simp only [bwp, A.cond] at hr ⊢
  split at hr
  · exact ⟨fun e => hx (hr.1 e), fun e => hy (hr.2 e)⟩
  · exact hr.elim
theorem blockB {c b : Code} {id : Nat} {Q : Ex → Slots → AHeap → Prop} {s : Slots} {h : AHeap} (hc : c = .block id b) (hb : bwp P C I b (Ex.inBlock id Q) s h) : bwp P C I c Q s h := by
  subst hc; exact hb
theorem loopB (hC : CMono C) {c b : Code} {Q : Ex → Slots → AHeap → Prop} {s : Slots} {h : AHeap} (keep live : List Nat) {G : List AVal → List AVal → AHeap → (List AVal → AHeap → Prop) → Prop}
    (hc : c = .loop b) (hk : (keep.all fun k => !memB (writesB P I b) k) = true)
    (hG : ∀ (Y : List AVal → AHeap → Prop) (s : Slots) (h : AHeap), G (keep.map s) (live.map s) h Y → bwp P C I b (Ex.then (fun s h => Y (live.map s) h) Q) s h)
    (hr : LoopR (G (keep.map s)) (live.map s) h) : bwp P C I c Q s h := by
  subst hc
  intro X hX
  have hm : ∀ (l : List Nat) (k : Nat), k ∈ l → memB l k = true := fun l => by
    induction l with
    | nil => intro k h; cases h
    | cons a r ih =>
      intro k h
      simp only [memB]
      rcases List.mem_cons.1 h with rfl | h
      · rw [Nat.beq_refl]; rfl
      · rw [ih k h]; cases Nat.beq a k <;> rfl
  have hw : ∀ k ∈ keep, k ∉ writesB P I b := fun k hk' hin => by
    have := List.all_eq_true.1 hk k hk'
    rw [hm _ _ hin] at this; cases this
  refine hr (fun vs h => ∀ s', keep.map s' = keep.map s → live.map s' = vs → X s' h) ?_ s rfl rfl
  intro vs h1 hg s1 e1 e2
  subst e2
  rw [← e1] at hg
  refine hX s1 h1 (bwp_agree hC b (fun e s2 h2 ha z => ?_) (hG _ s1 h1 hg))
  cases e with
  | normal =>
    refine z s2 ?_ rfl
    exact List.map_congr_left fun k hk' => ha k (hw k hk')
  | exit _ => exact z
  | ret => exact z
end
end Go.Ab
