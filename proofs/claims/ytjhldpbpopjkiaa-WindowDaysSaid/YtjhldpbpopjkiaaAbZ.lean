/- What is proved: the reading of code in the abstract memory is monotone, leaves slots that are not written, and may be taken in pieces: what follows a piece, or a loop's round, is told by the values of a few slots. -/
import Derived.Test.YtjhldpbpopjkiaaAbV
import Derived.KernelRfl
namespace Go.Ab

def CMono (C : CSem) : Prop := ∀ f args h (Q Q' : AVal → AHeap → Prop), (∀ v h, Q v h → Q' v h) → C f args h Q → C f args h Q'
theorem AC_cmono (P : Program) : CMono (AC P) := AC_mono P

section
variable {P : Program} {C : CSem}

theorem stepWp_mono (hC : CMono C) {ops : List Oper} {o : Oper} {s : Slots} {h : AHeap} {K K' : AVal → AHeap → Prop} (hk : ∀ v h, K v h → K' v h) (x : stepWp P C ops o s h K) : stepWp P C ops o s h K' :=
  stepWp_sh.2 (sh_mono hC hk (stepWp_sh.1 x))
theorem stepWpD_mono (hC : CMono C) {ops : List Oper} {o : Oper} {ks : List (Operand × TypeId)} {s : Slots} {h : AHeap} {K K' : AVal → AHeap → Prop} (hk : ∀ v h, K v h → K' v h) (x : stepWpD P C ops o ks s h K) : stepWpD P C ops o ks s h K' := by
  rw [stepWpD_sh hC] at x ⊢
  exact sh_mono hC (fun v h ⟨a, b⟩ => ⟨a, hk v h b⟩) x

/-- The slots that code writes. -/
def writes : Code → List Nat
  | .region _ ops _ => ops.toList.filterMap (·.dst)
  | .seq a b => writes a ++ writes b
  | .cond _ a b => writes a ++ writes b
  | .block _ b => writes b
  | .loop b => writes b
  | _ => []

def Agree (l : List Nat) (s s' : Slots) : Prop := ∀ k, k ∉ l → s' k = s k
theorem Agree.refl (l : List Nat) (s : Slots) : Agree l s s := fun _ _ => rfl
theorem Agree.trans {l : List Nat} {a b c : Slots} (x : Agree l a b) (y : Agree l b c) : Agree l a c := fun k hk => (y k hk).trans (x k hk)
theorem Agree.mono {l l' : List Nat} {a b : Slots} (hl : ∀ k ∈ l, k ∈ l') (x : Agree l a b) : Agree l' a b := fun k hk => x k fun h => hk (hl k h)
theorem Agree.put {l : List Nat} (s : Slots) {d : Option Nat} (v : AVal) (hd : ∀ k, d = some k → k ∈ l) : Agree l s (putS s d v) := fun k hk => by
  cases d with
  | none => rfl
  | some d => exact putS_other s v fun e => hk (e ▸ hd d rfl)

theorem awp_mono (hC : CMono C) : ∀ (c : Code) {Q Q' : Ex → Slots → AHeap → Prop}, (∀ e s h, Q e s h → Q' e s h) → ∀ {s : Slots} {h : AHeap}, awp P C c Q s h → awp P C c Q' s h
  | .skip, _, _, hq, _, _, x => hq _ _ _ x
  | .ret, _, _, hq, _, _, x => hq _ _ _ x
  | .exit _, _, _, hq, _, _, x => hq _ _ _ x
  | .region _ ops false, Q, Q', hq, s, h, x => by
    have : ∀ (l : List Oper) (s : Slots) (h : AHeap), opsWp P C ops.toList l (Q .normal) s h → opsWp P C ops.toList l (Q' .normal) s h := by
      intro l
      induction l with
      | nil => exact fun s h x => hq _ _ _ x
      | cons o r ih => exact fun s h x => stepWp_mono hC (fun v h y => ih _ _ y) x
    exact this _ _ _ x
  | .region _ ops true, Q, Q', hq, s, h, x => by
    have : ∀ (l : List (Item × List (Operand × TypeId))) (s : Slots) (h : AHeap), opsWpD P C ops.toList l (Q .normal) s h → opsWpD P C ops.toList l (Q' .normal) s h := by
      intro l
      induction l with
      | nil => exact fun s h x => hq _ _ _ x
      | cons o r ih => exact fun s h x => stepWpD_mono hC (fun v h y => ih _ _ y) x
    simp only [awp] at x ⊢
    split at x
    · exact this _ _ _ x
    · exact x.elim
  | .seq a b, Q, Q', hq, s, h, x => awp_mono hC a (fun e s h y => by
      cases e with
      | normal => exact awp_mono hC b hq y
      | exit _ => exact hq _ _ _ y
      | ret => exact hq _ _ _ y) x
  | .cond c a b, Q, Q', hq, s, h, x => by
    simp only [awp, A.cond] at x ⊢
    split at x
    · exact ⟨fun e => awp_mono hC a hq (x.1 e), fun e => awp_mono hC b hq (x.2 e)⟩
    · exact x.elim
  | .block id b, Q, Q', hq, s, h, x => awp_mono hC b (fun e s h y => by
      cases e with
      | normal => exact hq _ _ _ y
      | ret => exact hq _ _ _ y
      | exit j =>
        simp only [Ex.inBlock] at y ⊢
        cases hj : Nat.beq j id with
        | true => rw [hj] at y; exact hq _ _ _ y
        | false => rw [hj] at y; exact hq _ _ _ y) x
  | .loop c, Q, Q', hq, s, h, x => fun X hX => x X fun s h y => hX s h (awp_mono hC c (fun e s h z => by
      cases e with
      | normal => exact z
      | exit _ => exact hq _ _ _ z
      | ret => exact hq _ _ _ z) y)
  | .rangeFunc .., _, _, _, _, _, x => x.elim
  | .scope _, _, _, _, _, _, x => x.elim
  | .label _, _, _, _, _, _, x => x.elim
  | .goto _, _, _, _, _, _, x => x.elim
  | .refuse _, _, _, _, _, _, x => x.elim

theorem opsWp_agree (hC : CMono C) {ops : List Oper} {Q : Slots → AHeap → Prop} {L : List Nat} : ∀ (l : List Oper), (∀ k ∈ l.filterMap (·.dst), k ∈ L) → ∀ (s : Slots) (h : AHeap), opsWp P C ops l Q s h → opsWp P C ops l (fun s' h => Q s' h ∧ Agree L s s') s h
  | [], _, s, h, x => ⟨x, Agree.refl _ _⟩
  | o :: r, hl, s, h, x => stepWp_mono hC (fun v h y => by
      have hd : ∀ k, o.dst = some k → k ∈ L := fun k e => hl k (List.mem_filterMap.2 ⟨o, by simp, e⟩)
      have hr : ∀ k ∈ r.filterMap (·.dst), k ∈ L := fun k hk => hl k (by
        obtain ⟨o', h1, h2⟩ := List.mem_filterMap.1 hk
        exact List.mem_filterMap.2 ⟨o', by simp [h1], h2⟩)
      have := opsWp_agree hC r hr _ _ y
      have mono : ∀ (l : List Oper) (s : Slots) (h : AHeap) (Q Q' : Slots → AHeap → Prop), (∀ s h, Q s h → Q' s h) → opsWp P C ops l Q s h → opsWp P C ops l Q' s h := by
        intro l
        induction l with
        | nil => exact fun s h _ _ hq x => hq _ _ x
        | cons o r ih => exact fun s h _ _ hq x => stepWp_mono hC (fun v h y => ih _ _ _ _ hq y) x
      exact mono _ _ _ _ _ (fun s' h ⟨a, b⟩ => ⟨a, (Agree.put s v hd).trans b⟩) this) x

theorem opsWpD_agree (hC : CMono C) {ops : List Oper} {Q : Slots → AHeap → Prop} {L : List Nat} : ∀ (l : List (Item × List (Operand × TypeId))), (∀ t ∈ l, ∀ k, t.1.o.dst = some k → k ∈ L) → ∀ (s : Slots) (h : AHeap), opsWpD P C ops l Q s h → opsWpD P C ops l (fun s' h => Q s' h ∧ Agree L s s') s h
  | [], _, s, h, x => ⟨x, Agree.refl _ _⟩
  | t :: r, hl, s, h, x => stepWpD_mono hC (fun v h y => by
      have := opsWpD_agree hC r (fun t' ht' => hl t' (by simp [ht'])) _ _ y
      have mono : ∀ (l : List (Item × List (Operand × TypeId))) (s : Slots) (h : AHeap) (Q Q' : Slots → AHeap → Prop), (∀ s h, Q s h → Q' s h) → opsWpD P C ops l Q s h → opsWpD P C ops l Q' s h := by
        intro l
        induction l with
        | nil => exact fun s h _ _ hq x => hq _ _ x
        | cons o r ih => exact fun s h _ _ hq x => stepWpD_mono hC (fun v h y => ih _ _ _ _ hq y) x
      exact mono _ _ _ _ _ (fun s' h ⟨a, b⟩ => ⟨a, (Agree.put s v (hl t (by simp))).trans b⟩) this) x

/-- Slots that are not written stay. -/
theorem awp_agree (hC : CMono C) : ∀ (c : Code) {Q : Ex → Slots → AHeap → Prop} {s : Slots} {h : AHeap}, awp P C c Q s h → awp P C c (fun e s' h => Q e s' h ∧ Agree (writes c) s s') s h
  | .skip, _, _, _, x => ⟨x, Agree.refl _ _⟩
  | .ret, _, _, _, x => ⟨x, Agree.refl _ _⟩
  | .exit _, _, _, _, x => ⟨x, Agree.refl _ _⟩
  | .region _ ops false, Q, s, h, x => opsWp_agree hC ops.toList (fun k hk => hk) s h x
  | .region _ ops true, Q, s, h, x => by
    simp only [awp] at x ⊢
    split at x
    · rename_i l hp
      refine opsWpD_agree hC l (fun t ht k hk => ?_) s h x
      have ht' : t.1 ∈ items P ops.toList := by
        unfold plan at hp
        simp only [Bool.cond_eq_ite] at hp
        split at hp
        · cases hp
          exact plan_mem ((withKeeps_spec _ _ _ ht).1)
        · cases hp
      exact List.mem_filterMap.2 ⟨t.1.o, List.mem_of_getElem? (by simpa using (item_spec ht').1), hk⟩
    · exact x.elim
  | .seq a b, Q, s, h, x => by
    refine awp_mono hC a (fun e s1 h y => ?_) (awp_agree hC a x)
    obtain ⟨y, ha⟩ := y
    have ha' : Agree (writes (.seq a b)) s s1 := ha.mono fun k hk => List.mem_append_left _ hk
    cases e with
    | normal => exact awp_mono hC b (fun e s2 h ⟨z, hb⟩ => ⟨z, ha'.trans (hb.mono fun k hk => List.mem_append_right _ hk)⟩) (awp_agree hC b y)
    | exit _ => exact ⟨y, ha'⟩
    | ret => exact ⟨y, ha'⟩
  | .cond c a b, Q, s, h, x => by
    simp only [awp, A.cond] at x ⊢
    split at x
    · exact ⟨fun e => awp_mono hC a (fun _ _ _ ⟨y, z⟩ => ⟨y, z.mono fun k hk => List.mem_append_left _ hk⟩) (awp_agree hC a (x.1 e)),
        fun e => awp_mono hC b (fun _ _ _ ⟨y, z⟩ => ⟨y, z.mono fun k hk => List.mem_append_right _ hk⟩) (awp_agree hC b (x.2 e))⟩
    · exact x.elim
  | .block id b, Q, s, h, x => awp_mono hC b (fun e s1 h ⟨y, z⟩ => by
      cases e with
      | normal => exact ⟨y, z⟩
      | ret => exact ⟨y, z⟩
      | exit j =>
        simp only [Ex.inBlock] at y ⊢
        cases hj : Nat.beq j id with
        | true => rw [hj] at y; exact ⟨y, z⟩
        | false => rw [hj] at y; exact ⟨y, z⟩) (awp_agree hC b x)
  | .loop c, Q, s, h, x => fun X hX => by
    refine x (fun s1 h1 => Agree (writes c) s s1 → X s1 h1) (fun s1 h1 y ha => hX s1 h1 ?_) (Agree.refl _ _)
    refine awp_mono hC c (fun e s2 h2 ⟨z, hb⟩ => ?_) (awp_agree hC c y)
    cases e with
    | normal => exact z (ha.trans hb)
    | exit _ => exact ⟨z, ha.trans hb⟩
    | ret => exact ⟨z, ha.trans hb⟩
  | .rangeFunc .., _, _, _, x => x.elim
  | .scope _, _, _, _, x => x.elim
  | .label _, _, _, _, x => x.elim
  | .goto _, _, _, _, x => x.elim
  | .refuse _, _, _, _, x => x.elim

/-- A loop, told by the values of the slots that it turns. -/
def LoopR (F : List AVal → AHeap → (List AVal → AHeap → Prop) → Prop) (vs : List AVal) (h : AHeap) : Prop :=
  ∀ Y : List AVal → AHeap → Prop, (∀ vs h, F vs h Y → Y vs h) → Y vs h

/-- The code at a place: 0 and 1: the first and second part; a block's and a loop's body: 0. -/
def Code.at : Code → List Nat → Code
  | c, [] => c
  | .seq a _, 0 :: r => Code.at a r
  | .seq _ b, _ :: r => Code.at b r
  | .cond _ a _, 0 :: r => Code.at a r
  | .cond _ _ b, _ :: r => Code.at b r
  | .block _ b, _ :: r => Code.at b r
  | .loop b, _ :: r => Code.at b r
  | _, _ => .skip

theorem seq_link (hC : CMono C) {c a b : Code} {Q : Ex → Slots → AHeap → Prop} {X : Slots → AHeap → Prop} {s : Slots} {h : AHeap} (hc : c = .seq a b) (hb : ∀ s h, X s h → awp P C b Q s h) (ha : awp P C a (Ex.then X Q) s h) : awp P C c Q s h := by
  subst hc
  exact awp_mono hC a (fun e s h y => by
    cases e with
    | normal => exact hb _ _ y
    | exit _ => exact y
    | ret => exact y) ha
theorem cond_link {c x y : Code} {o : Operand} {Q : Ex → Slots → AHeap → Prop} {p q : Prop} {s : Slots} {h : AHeap} (hc : c = .cond o x y) (hx : p → awp P C x Q s h) (hy : q → awp P C y Q s h) (hr : A.cond (evS s o) p q) : awp P C c Q s h := by
  subst hc
  simp only [awp, A.cond] at hr ⊢
  split at hr
  · exact ⟨fun e => hx (hr.1 e), fun e => hy (hr.2 e)⟩
  · exact hr.elim
theorem block_link {c b : Code} {id : Nat} {Q : Ex → Slots → AHeap → Prop} {s : Slots} {h : AHeap} (hc : c = .block id b) (hb : awp P C b (Ex.inBlock id Q) s h) : awp P C c Q s h := by
  subst hc; exact hb
theorem loop_link (hC : CMono C) {c b : Code} {Q : Ex → Slots → AHeap → Prop} {s : Slots} {h : AHeap} (keep live : List Nat) {G : List AVal → List AVal → AHeap → (List AVal → AHeap → Prop) → Prop}
    (hc : c = .loop b) (hk : (keep.all fun k => !(writes b).contains k) = true)
    (hG : ∀ (Y : List AVal → AHeap → Prop) (s : Slots) (h : AHeap), G (keep.map s) (live.map s) h Y → awp P C b (Ex.then (fun s h => Y (live.map s) h) Q) s h)
    (hr : LoopR (G (keep.map s)) (live.map s) h) : awp P C c Q s h := by
  subst hc
  intro X hX
  have hw : ∀ k ∈ keep, k ∉ writes b := fun k hk' => by
    have := List.all_eq_true.1 hk k hk'
    simpa using this
  refine hr (fun vs h => ∀ s', keep.map s' = keep.map s → live.map s' = vs → X s' h) ?_ s rfl rfl
  intro vs h1 hg s1 e1 e2
  subst e2
  rw [← e1] at hg
  refine hX s1 h1 (awp_mono hC b (fun e s2 h2 ⟨z, ha⟩ => ?_) (awp_agree hC b (hG _ s1 h1 hg)))
  cases e with
  | normal =>
    refine z s2 ?_ rfl
    exact List.map_congr_left fun k hk' => ha k (hw k hk')
  | exit _ => exact z
  | ret => exact z
end

theorem callFunc_enter {P : Program} {f : FuncId} {fn : Func} (hf : P.funcs[f]? = some fn) (hb : fn.body.isNone = false) (hn : (fn.name == "runtime.NumGoroutine") = false) (va : Array Value) (w : World) :
    (callFunc f va).run P w = .ok (.enter f va) w := by
  have hb' : fn.body ≠ none := fun e => by rw [e] at hb; cases hb
  have hn' : fn.name ≠ "runtime.NumGoroutine" := fun e => by rw [e] at hn; cases hn
  unfold callFunc
  simp [Sem.run_bind, run_program, hf, hb', hn']

/-- A loop that ends: what holds at its head, by a measure. -/
theorem LoopR.intro {F : List AVal → AHeap → (List AVal → AHeap → Prop) → Prop} {vs : List AVal} {h : AHeap} (I : Nat → List AVal → AHeap → Prop) (n : Nat)
    (hF : ∀ (Y : List AVal → AHeap → Prop) (n : Nat) (vs : List AVal) (h : AHeap), I n vs h → (∀ m vs h, m < n → I m vs h → Y vs h) → F vs h Y) (h0 : I n vs h) : LoopR F vs h := by
  intro Y hY
  have : ∀ n vs h, I n vs h → Y vs h := by
    intro n
    induction n using Nat.strongRecOn with
    | ind n ih => exact fun vs h hi => hY vs h (hF Y n vs h hi fun m vs h hm => ih m hm vs h)
  exact this n vs h h0
end Go.Ab
