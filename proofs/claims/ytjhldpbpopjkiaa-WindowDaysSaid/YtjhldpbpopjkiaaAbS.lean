/- What is proved: how the shape of an operation hangs on its operands and on the memory. -/
import Derived.Test.YtjhldpbpopjkiaaAbR
namespace Go.Ab

section
variable {P : Program} {h H : AHeap} {ρ ρ' : Operand → AVal}

theorem parts_congr {ps : Array (Nat × Operand)} (h : ∀ x ∈ (ps.toList.map (·.2)).toArray, ρ x = ρ' x) : (ps.toList.map fun p => (p.1, ρ p.2)) = ps.toList.map fun p => (p.1, ρ' p.2) :=
  List.map_congr_left fun p hp => by rw [h p.2 (by simp only [List.mem_toArray, List.mem_map]; exact ⟨p, hp, rfl⟩)]

theorem args_congr {xs : Array Operand} (h : ∀ x ∈ xs, ρ x = ρ' x) : xs.toList.map ρ = xs.toList.map ρ' :=
  List.map_congr_left fun x hx => h x (by simpa using hx)

theorem shOf_congr {op : Op} (hop : ∀ x ∈ op.operands, ρ x = ρ' x) : shOf P op ρ h = shOf P op ρ' h := by
  cases op <;> simp only [Op.operands] at hop <;> simp only [shOf]
  case build t ps => rw [parts_congr hop]
  case buildSlice t n ps => rw [parts_congr hop]
  case makeFunc fn first caps =>
    cases fn <;> simp only
    rw [args_congr fun x hx => hop x (by simp [hx]), args_congr fun x hx => hop x (by simp [hx])]
  case call c =>
    have ha : c.args.toList.map ρ = c.args.toList.map ρ' := args_congr fun x hx => hop x (by simp [Call.operands, hx])
    rw [ha]
    cases hc : c.callee with
    | value f =>
      have hf : ρ f = ρ' f := hop f (by simp [Call.operands, hc])
      cases f <;> simp only [hf]
    | invoke r m => rfl
    | builtin b => rfl
  case next x b => cases b <;> simp_all
  case slice t x lo hi mx => cases lo <;> cases hi <;> cases mx <;> simp_all <;> (cases hu : P.underlying t with | none => rfl | some d => cases d <;> simp_all)
  all_goals (first | rfl | (simp_all; done))

theorem ldv_le (hle : h.le H) {p v : AVal} (hv : A.ldv h p = some v) : A.ldv H p = some v := by
  unfold A.ldv at hv ⊢
  split at hv <;> (try (cases hv; done))
  split at hv <;> (try (cases hv; done))
  rename_i b hb
  rw [hle _ b hb]
  exact hv
theorem ldnv_le (hle : h.le H) {p v : AVal} {n : Nat} (hv : A.ldnv h p n = some v) : A.ldnv H p n = some v := by
  unfold A.ldnv at hv ⊢
  split at hv <;> (try (cases hv; done))
  split at hv <;> (try (cases hv; done))
  rename_i b hb
  rw [hle _ b hb]
  exact hv
theorem rdv_le (hle : h.le H) {p : AVal} {n es : Nat} {cs : List AVal} (hv : A.rdv h p n es = some cs) : A.rdv H p n es = some cs := by
  unfold A.rdv at hv ⊢
  split at hv
  · exact hv
  · exact hv
  · split at hv <;> (try (cases hv; done))
    rename_i b hb
    rw [hle _ b hb]
    exact hv
  · cases hv

theorem st_le (hle : h.le H) {p v : AVal} {f : List AVal → Option (List AVal)} {n off : Nat} (hx : Sh.st h p f n off v ≠ .fail) : Sh.st H p f n off v = Sh.st h p f n off v := by
  unfold Sh.st at hx ⊢
  split
  · rename_i id g o
    cases hb : h id with
    | none => simp [hb] at hx
    | some b => rw [hle _ b hb]
  · rfl
theorem app_le (hle : h.le H) {es bytes : Nat} {x : AVal} {news : Option (List AVal)} (hx : Sh.app h es bytes x news ≠ .fail) : Sh.app H es bytes x news = Sh.app h es bytes x news := by
  unfold Sh.app at hx ⊢
  cases news with
  | none => rfl
  | some cs =>
    cases x <;> (try rfl)
    rename_i id g off len es' cp'
    cases hb : h id with
    | none => simp [hb] at hx
    | some b =>
      have hB := hle _ b hb
      simp only [hB, hb]
theorem cpy_le (hle : h.le H) {es : Nat} {x y : AVal} (hx : Sh.cpy h es x y ≠ .fail) : Sh.cpy H es x y = Sh.cpy h es x y := by
  unfold Sh.cpy at hx ⊢
  cases hm : A.srcLen y with
  | none => rfl
  | some m =>
    simp only [hm] at hx
    cases x <;> (try rfl)
    simp only at hx ⊢
    rename_i id g off len es' cp'
    cases hr : A.rdv h y (min m len) es with
    | none => simp [hr] at hx
    | some cs =>
      simp only [hr] at hx
      rw [rdv_le hle hr]
      exact st_le hle hx
theorem bytesStr_le (hle : h.le H) {x : AVal} (hx : Sh.bytesStr h x ≠ .fail) : Sh.bytesStr H x = Sh.bytesStr h x := by
  unfold Sh.bytesStr at hx ⊢
  cases hm : A.srcLen x with
  | none => rfl
  | some m =>
    simp only [hm] at hx ⊢
    cases hr : A.rdv h x m 1 with
    | none => simp [hr] at hx
    | some cs => rw [rdv_le hle hr]
theorem nextStr_le (hle : h.le H) {x : AVal} (hx : Sh.nextStr h x ≠ .fail) : Sh.nextStr H x = Sh.nextStr h x := by
  unfold Sh.nextStr at hx ⊢
  split
  · rename_i id
    cases hb : h id with
    | none => simp [hb] at hx
    | some b => rw [hle _ b hb]
  · rfl
theorem pv_le {o o' : Option AVal} (ho : ∀ v, o = some v → o' = some v) (hx : Sh.pv o ≠ .fail) : Sh.pv o' = Sh.pv o := by
  cases o with
  | none => exact absurd rfl hx
  | some v => rw [ho v rfl]

/-- What is told of an operation stays where more memory is known. -/
theorem shOf_le (hle : h.le H) {op : Op} (hx : shOf P op ρ h ≠ .fail) : shOf P op ρ H = shOf P op ρ h := by
  cases op <;> (try rfl)
  case makeFunc fn _ _ => cases fn <;> rfl
  all_goals simp only [shOf] at hx ⊢
  case load t p =>
    cases hu : P.underlying t with
    | none => rfl
    | some d =>
      simp only [hu] at hx ⊢
      cases hb : isAggB P t <;> simp only [hb, cond_true, cond_false] at hx ⊢
      · exact pv_le (fun v => ldv_le hle) hx
      · exact pv_le (fun v => ldnv_le hle) hx
  case store t p v =>
    cases hb : isAggB P t <;> simp only [hb, cond_true, cond_false] at hx ⊢
    · cases hc : Nat.beq (P.cellsOf t) 1 <;> simp only [hc, cond_true, cond_false] at hx ⊢
      exact st_le hle hx
    · exact st_le hle hx
  case convert src dst y =>
    cases hs : P.underlying src with
    | none => rfl
    | some d =>
      cases hd : P.underlying dst with
      | none => cases d <;> rfl
      | some d' =>
        simp only [hs, hd] at hx ⊢
        cases d <;> (try rfl) <;> cases d' <;> (try rfl)
        rename_i e
        simp only at hx ⊢
        cases hu : isU8 P e <;> simp only [hu, cond_true, cond_false] at hx ⊢
        exact bytesStr_le hle hx
  case next y b =>
    cases b
    · rfl
    · exact nextStr_le hle hx
  case call c =>
    cases hc : c.callee with
    | value f => cases f <;> rfl
    | invoke _ _ => rfl
    | builtin b =>
      simp only [hc] at hx ⊢
      unfold builtinSh at hx ⊢
      split <;> (try rfl)
      · rename_i t u x y e1 e2
        simp only [e1, e2] at hx
        cases hs : P.underlying t with
        | none => rfl
        | some d =>
          cases hd : P.underlying u with
          | none => cases d <;> rfl
          | some d' =>
            simp only [hs, hd] at hx ⊢
            cases d <;> (try rfl) <;> cases d' <;> (try rfl)
            rename_i e e'
            simp only at hx ⊢
            split
            · rename_i h0
              rw [if_pos h0] at hx
              cases hn : A.srcLen y with
              | none => rfl
              | some n =>
                simp only [hn] at hx ⊢
                cases hr : A.rdv h y n (P.cellsOf e) with
                | none => rw [hr] at hx; exact absurd rfl hx
                | some cs => rw [hr] at hx; rw [rdv_le hle hr]; exact app_le hle hx
            · rfl
      · rename_i t u x y e1 e2
        simp only [e1, e2] at hx
        cases hs : P.underlying t with
        | none => rfl
        | some d =>
          simp only [hs] at hx ⊢
          cases d <;> (try rfl)
          simp only at hx ⊢
          split
          · rename_i h0
            rw [if_pos h0] at hx
            exact cpy_le hle hx
          · rfl

/-- Where a block is turned, it is known. -/
def Sh.known (h : AHeap) : Sh → Prop
  | .heap id _ _ => ∃ b, h id = some b
  | _ => True
theorem st_known {p v : AVal} {f : List AVal → Option (List AVal)} {n off : Nat} : (Sh.st h p f n off v).known h := by
  unfold Sh.st
  split <;> (try trivial)
  split <;> (try trivial)
  rename_i b hb
  split <;> (try trivial)
  rename_i hi _
  cases (b.own && _) <;> simp only [cond_true, cond_false] <;> (try trivial)
  split <;> (try trivial)
  exact ⟨b, hb⟩
theorem pv_known {o : Option AVal} : (Sh.pv o).known h := by cases o <;> trivial
theorem newO_known {o : Option (List AVal)} {mk : Nat → AVal} : (Sh.newO o mk).known h := by cases o <;> trivial
theorem ite_known {p : Prop} [Decidable p] {x y : Sh} (hx : x.known h) (hy : y.known h) : (if p then x else y).known h := by split <;> assumption
theorem bif_known {p : Bool} {x y : Sh} (hx : x.known h) (hy : y.known h) : (bif p then x else y).known h := by cases p <;> assumption
theorem app_known {es bytes : Nat} {x : AVal} {news : Option (List AVal)} : (Sh.app h es bytes x news).known h := by
  unfold Sh.app
  cases news with
  | none => trivial
  | some cs =>
    cases x <;> (try trivial)
    · exact ite_known trivial (ite_known trivial trivial)
    · exact ite_known trivial (ite_known trivial trivial)
    · simp only
      split <;> (try trivial)
      rename_i b hb
      split <;> (try trivial)
      exact ite_known ⟨b, hb⟩ trivial
theorem cpy_known {es : Nat} {x y : AVal} : (Sh.cpy h es x y).known h := by
  unfold Sh.cpy
  split <;> (try trivial)
  split <;> (try trivial)
  split <;> (try trivial)
  exact st_known
theorem shOf_known {op : Op} : (shOf P op ρ h).known h := by
  cases op <;> (try trivial) <;> simp only [shOf] <;> (try exact pv_known) <;> (try exact newO_known)
  case pick => unfold Sh.pick; split <;> trivial
  case nilCheck => unfold Sh.nilCheck; split <;> trivial
  case buildSlice =>
    split <;> (try trivial)
    refine ite_known ?_ newO_known
    split <;> trivial
  case load => split <;> (try trivial); exact bif_known pv_known pv_known
  case store => exact bif_known st_known (bif_known st_known trivial)
  case binOp => split <;> (try trivial) <;> (try exact pv_known); split <;> (try trivial) <;> exact pv_known
  case convert =>
    split <;> (try trivial) <;> (try exact pv_known)
    · refine bif_known ?_ trivial
      unfold Sh.bytesStr
      split <;> (try trivial)
      split <;> (try trivial)
      split <;> trivial
    · refine bif_known ?_ trivial
      unfold Sh.strBytes
      split <;> (try trivial)
      exact ite_known trivial trivial
  case range => split <;> (try trivial); unfold Sh.rangeStr; split <;> trivial
  case next y b =>
    cases b <;> (try trivial)
    simp only
    unfold Sh.nextStr
    split <;> (try trivial)
    split <;> (try trivial)
    rename_i b hb
    split <;> (try trivial)
    exact ite_known ⟨b, hb⟩ trivial
  case makeSlice =>
    split <;> (try trivial)
    refine ite_known ?_ trivial
    unfold Sh.mks
    split <;> (try trivial)
    exact ite_known trivial trivial
  case slice =>
    split <;> (try trivial) <;> (try exact pv_known)
    · exact bif_known trivial pv_known
    · refine bif_known trivial ?_
      split <;> (try trivial) <;> exact pv_known
  case fieldAddr => split <;> (try trivial); split <;> (try trivial); exact bif_known trivial pv_known
  case field => split <;> (try trivial); split <;> (try trivial); split <;> (try trivial); exact bif_known pv_known pv_known
  case indexAddr => split <;> (try trivial) <;> exact bif_known trivial pv_known
  case index => split <;> (try trivial); exact pv_known
  case makeFunc fn _ _ => cases fn <;> trivial
  case call c =>
    split <;> (try trivial)
    · unfold Sh.callv; split <;> trivial
    · unfold builtinSh
      split <;> (try trivial) <;> (try exact pv_known)
      · split <;> (try trivial) <;> exact pv_known
      · split <;> (try trivial)
        refine ite_known ?_ trivial
        split <;> (try trivial)
        exact app_known
      · split <;> (try trivial)
        exact ite_known cpy_known trivial

/-- Memory that is not known is not touched. -/
theorem sh_frame {K : AVal → AHeap → Prop} {x : Sh} {id : Nat} {b : Blk} (hid : h id = none) (hkn : x.known h) (hx : x.run (AC P) h K) :
    x.run (AC P) (upd h id b) fun v h'' => ∃ h', K v h' ∧ h' id = none ∧ h'' = upd h' id b := by
  cases x with
  | val v => exact ⟨h, hx, hid, rfl⟩
  | heap i b' v =>
    obtain ⟨b0, hb0⟩ := hkn
    have hne : id ≠ i := fun e => by subst e; rw [hid] at hb0; cases hb0
    exact ⟨upd h i b', hx, by rw [upd_other _ _ hne]; exact hid, upd_comm _ _ _ hne⟩
  | new b' mk =>
    intro i hi
    have hne : id ≠ i := fun e => by subst e; rw [upd_same] at hi; cases hi
    rw [upd_other _ _ (Ne.symm hne)] at hi
    exact ⟨upd h i b', hx i hi, by rw [upd_other _ _ hne]; exact hid, upd_comm _ _ _ hne⟩
  | call f args => exact AC.frame hx hid
  | fail => exact hx

/-! Kinds. -/
theorem sh_of_pure {op : Op} (hk : kdOf P op = .pure) : (∀ h H : AHeap, shOf P op ρ h = shOf P op ρ H) ∧ ((∃ v, shOf P op ρ h = .val v) ∨ shOf P op ρ h = .fail) := by
  have pvc : ∀ o : Option AVal, (∃ v, Sh.pv o = .val v) ∨ Sh.pv o = .fail := fun o => by
    cases o with
    | none => exact .inr rfl
    | some v => exact .inl ⟨v, rfl⟩
  have bc : ∀ (b : Bool) (x y : Sh), ((∃ v, x = .val v) ∨ x = .fail) → ((∃ v, y = .val v) ∨ y = .fail) → ((∃ v, (bif b then x else y) = .val v) ∨ (bif b then x else y) = .fail) := fun b x y hx hy => by
    cases b
    · exact hy
    · exact hx
  cases op <;> (try (simp only [kdOf] at hk; cases hk; done)) <;> (try (exact ⟨fun _ _ => rfl, .inl ⟨_, rfl⟩⟩)) <;> (try (exact ⟨fun _ _ => rfl, pvc _⟩))
  case pick => exact ⟨fun _ _ => rfl, by simp only [shOf]; unfold Sh.pick; split <;> simp⟩
  case nilCheck => exact ⟨fun _ _ => rfl, by simp only [shOf]; unfold Sh.nilCheck; split <;> simp⟩
  case binOp => exact ⟨fun _ _ => rfl, by simp only [shOf]; split <;> (try exact pvc _) <;> (try exact .inr rfl); split <;> first | exact pvc _ | exact .inr rfl⟩
  case convert src dst y =>
    simp only [kdOf] at hk
    simp only [shOf]
    cases hs : P.underlying src with
    | none => simp [hs] at hk
    | some d =>
      cases hd : P.underlying dst with
      | none => rw [hs, hd] at hk; cases d <;> cases hk
      | some d' =>
        rw [hs, hd] at hk
        cases d <;> (try (cases hk; done)) <;> cases d' <;> (try (cases hk; done)) <;> exact ⟨fun _ _ => rfl, pvc _⟩
  case slice => exact ⟨fun _ _ => rfl, by
    simp only [shOf]
    split <;> (try exact pvc _) <;> (try exact .inr rfl)
    · exact bc _ _ _ (.inr rfl) (pvc _)
    · exact bc _ _ _ (.inr rfl) (by split <;> (try exact pvc _) <;> exact .inr rfl)⟩
  case fieldAddr => exact ⟨fun _ _ => rfl, by simp only [shOf]; split <;> (try exact .inr rfl); split <;> (try exact .inr rfl); exact bc _ _ _ (.inr rfl) (pvc _)⟩
  case field => exact ⟨fun _ _ => rfl, by simp only [shOf]; split <;> (try exact .inr rfl); split <;> (try exact .inr rfl); split <;> (try exact .inr rfl); exact bc _ _ _ (pvc _) (pvc _)⟩
  case indexAddr => exact ⟨fun _ _ => rfl, by simp only [shOf]; split <;> (try exact .inr rfl) <;> exact bc _ _ _ (.inr rfl) (pvc _)⟩
  case index => exact ⟨fun _ _ => rfl, by simp only [shOf]; split <;> (try exact .inr rfl); exact pvc _⟩
  case makeFunc fn _ _ => cases fn <;> exact ⟨fun _ _ => rfl, by first | exact .inl ⟨_, rfl⟩ | exact .inr rfl⟩
  case call c =>
    obtain ⟨callee, args, ats⟩ := c
    cases callee with
    | value _ => simp [kdOf] at hk
    | invoke _ _ => simp [kdOf] at hk
    | builtin b =>
      have hb : b = .len ∨ b = .min ∨ b = .max := by cases b <;> simp [kdOf] at hk ⊢
      simp only [shOf]
      generalize ats.toList = as
      generalize args.toList.map ρ = bs
      rcases hb with rfl | rfl | rfl
      · cases as with
        | nil => exact ⟨fun _ _ => rfl, .inr rfl⟩
        | cons t r =>
          rcases bs with _ | ⟨x, _ | ⟨y, r'⟩⟩
          · exact ⟨fun _ _ => rfl, .inr rfl⟩
          · refine ⟨fun _ _ => rfl, ?_⟩
            simp only [builtinSh]
            split <;> (try exact pvc _)
            · exact .inl ⟨_, rfl⟩
            · exact .inr rfl
          · exact ⟨fun _ _ => rfl, .inr rfl⟩
      · rcases bs with _ | ⟨x, _ | ⟨y, _ | ⟨z, r'⟩⟩⟩
        · exact ⟨fun _ _ => rfl, .inr rfl⟩
        · exact ⟨fun _ _ => rfl, .inr rfl⟩
        · exact ⟨fun _ _ => rfl, pvc _⟩
        · exact ⟨fun _ _ => rfl, .inr rfl⟩
      · rcases bs with _ | ⟨x, _ | ⟨y, _ | ⟨z, r'⟩⟩⟩
        · exact ⟨fun _ _ => rfl, .inr rfl⟩
        · exact ⟨fun _ _ => rfl, .inr rfl⟩
        · exact ⟨fun _ _ => rfl, pvc _⟩
        · exact ⟨fun _ _ => rfl, .inr rfl⟩

theorem sh_of_alloc {op : Op} (hk : kdOf P op = .alloc) : (∀ h H : AHeap, shOf P op ρ h = shOf P op ρ H) ∧ ((∃ v, shOf P op ρ h = .val v) ∨ (∃ b mk, shOf P op ρ h = .new b mk) ∨ shOf P op ρ h = .fail) := by
  have nc : ∀ (o : Option (List AVal)) mk, (∃ v, Sh.newO o mk = .val v) ∨ (∃ b m, Sh.newO o mk = .new b m) ∨ Sh.newO o mk = .fail := fun o mk => by
    cases o with
    | none => exact .inr (.inr rfl)
    | some v => exact .inr (.inl ⟨_, _, rfl⟩)
  cases op <;> (try (simp only [kdOf] at hk; cases hk; done)) <;> (try (exact ⟨fun _ _ => rfl, nc _ _⟩))
  case buildSlice =>
    refine ⟨fun _ _ => rfl, ?_⟩
    simp only [shOf]
    split
    · split
      · split
        · exact .inl ⟨_, rfl⟩
        · exact .inr (.inr rfl)
      · exact nc _ _
    · exact .inr (.inr rfl)
  case makeSlice =>
    refine ⟨fun _ _ => rfl, ?_⟩
    simp only [shOf]
    split
    · split
      · unfold Sh.mks
        split
        · split
          · exact .inr (.inl ⟨_, _, rfl⟩)
          · exact .inr (.inr rfl)
        · exact .inr (.inr rfl)
      · exact .inr (.inr rfl)
    · exact .inr (.inr rfl)
  case convert src dst y =>
    simp only [kdOf] at hk
    split at hk <;> cases hk
  case call c =>
    obtain ⟨callee, args, ats⟩ := c
    cases callee with
    | value _ => simp [kdOf] at hk
    | invoke _ _ => simp [kdOf] at hk
    | builtin b => cases b <;> simp [kdOf] at hk
end
end Go.Ab
