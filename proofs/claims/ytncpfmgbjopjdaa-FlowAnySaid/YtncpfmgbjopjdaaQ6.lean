/- What is proved: a part of the way to the statement; each part is headed by what it proves. No conditions. -/
import Derived.Test.YtncpfmgbjopjdaaQ3
import Derived.Test.YtncpfmgbjopjdaaQ5
import Derived.KernelRfl
import Derived.Test.YtncpfmgbjopjdaaRows

/- What is proved: arguments that are lists of plain values, read in the abstract memory. No conditions. -/
set_option linter.unusedVariables false
namespace Go.Ab
theorem arg_slice {T : Type} {H : AHeap} {bytes es : Nat} {e : Ty} {v : AVal} (cs : T → List AVal) (hd : ∀ p, AbsOk H e p → ∃ t, p = cs t) (h : AbsOk H (.sl bytes es e) [v]) :
    ∃ L : List T, SlIs H es v (L.map cs) ∧ L.length * bytes ≤ reach := by
  rcases h with h | h | ⟨id, parts, h1, h2, h3, h4⟩
  · cases h; exact ⟨[], SlX.nils H es, by simp⟩
  · cases h; exact ⟨[], SlX.sz H es, by simp⟩
  · cases h1
    have : ∃ L : List T, parts = L.map cs := by
      clear h2 h3
      induction parts with
      | nil => exact ⟨[], rfl⟩
      | cons p r ih =>
        obtain ⟨L, rfl⟩ := ih fun q hq => h4 q (by simp [hq])
        obtain ⟨t, rfl⟩ := hd p (h4 p (by simp)).1
        exact ⟨t :: L, rfl⟩
    obtain ⟨L, rfl⟩ := this
    have hl : ∀ p ∈ L.map cs ++ [], p.length = es := fun p hp => (h4 p (by simpa using hp)).2
    have hfl : (L.map cs).flatten.length = L.length * es := by
      have := flat_len (css := L.map cs) (n := es) fun p hp => (h4 p hp).2
      simpa using this
    refine ⟨L, ⟨hl, .inr ⟨id, 0, 0, (L.map cs).length, roOf (L.map cs).flatten, (L.map cs).flatten.length, rfl, by simp, h2, lookup_self .., ?_, Nat.le_refl _, ?_⟩⟩, by simpa using h3⟩
    · rw [hfl]; simp
    · simp only [roOf, List.drop_zero, List.append_nil, List.length_nil, Nat.add_zero, List.length_map]
      rw [← hfl, List.take_length]
end Go.Ab

/- What is proved: what the statements ask of lists of their own, that they lie apart: generic, whatever the elements. No conditions. -/
set_option linter.unusedVariables false
set_option linter.unusedSimpArgs false
namespace Go.Ab
variable {C : CSem} {N : Nat → Nat}

/-- How elements of a kind are loaded, stored, marked, compared. -/
structure ElOps where
  es : Nat
  bytes : Nat
  z : List AVal
  f : Nat
  kp : Option Nat
  ld : AHeap → AVal → (AVal → Prop) → Prop
  st : AHeap → AVal → AVal → (AHeap → Prop) → Prop
  eq : AHeap → AVal → AVal → (AVal → AHeap → Prop) → Prop

section
variable (E : ElOps)
/-- Elements of several cells, compared whole. -/
def opsF (es bytes : Nat) (z : List AVal) (f : Nat) (sh : List Ck) : ElOps where
  es := es; bytes := bytes; z := z; f := f; kp := some es
  ld := fun h p K => B.ldn h p es K
  st := fun h p v K => B.stn h p es v K
  eq := fun h a b K => B.pv (V.binAgg .eql sh a b) fun v => K v h
/-- Elements of one cell. -/
def opsS (bytes : Nat) (z : AVal) (f : Nat) : ElOps where
  es := 1; bytes := bytes; z := [z]; f := f; kp := none
  ld := fun h p K => B.ld h p K
  st := fun h p v K => B.st h p v K
  eq := fun h a b K => B.pv (V.bin .eql a b) fun v => K v h
end
end Go.Ab

/- What is proved: after an append, what stood ahead of it still reads. No conditions. -/
set_option linter.unusedVariables false
set_option linter.unusedSimpArgs false
namespace Go.Ab
variable {C : CSem} {N : Nat → Nat}

def aoff : AVal → Nat
  | .sl _ _ off _ _ _ => off
  | _ => 0
theorem lookup_cut (g hi e : Nat) : ∀ (gens : List (Nat × Nat)), gens.lookup g = some hi → (cutGens gens e).lookup g = some (min hi e)
  | [], h => by cases h
  | (g', k) :: r, h => by
    unfold cutGens
    rw [List.map_cons]
    by_cases e1 : (g == g') = true
    · simp only [List.lookup, e1] at h ⊢
      rw [Option.some.inj h]
    · simp only [Bool.not_eq_true] at e1
      simp only [List.lookup, e1] at h ⊢
      exact lookup_cut g hi e r h
/-- A slice in a block that is appended to, behind its end. -/
theorem SlX.oldApp {h : AHeap} {es : Nat} {x : AVal} {L R : List (List AVal)} (hs : SlX h es x L R) {id : Nat} {b : Blk} (hf : foot x = some id) (hb : h id = some b) {e : Nat} (he : aoff x + L.length * es ≤ e) (hb2 : e ≤ b.cells.length) (news : List AVal) :
    SlX (Ab.upd h id (appBlk b e news)) es x L [] := by
  have h0 := hs.cut
  refine ⟨h0.len, ?_⟩
  rcases h0.at_ with e1 | ⟨id', g, off, cp, b', hi, h1, h1', h2, h3, h4, hh, h5⟩
  · exact .inl e1
  · subst h1
    cases hf
    rw [hb] at h2
    cases h2
    simp only [aoff] at he
    simp only [List.length_nil, Nat.add_zero] at h4 h5 h1'
    have hcells : ((b.cells.take e ++ news).drop off).take (L.length * es) = (L ++ []).flatten := by
      rw [← h5]
      apply List.ext_getElem?
      intro k
      by_cases hk : k < L.length * es
      · rw [List.getElem?_take_of_lt hk, List.getElem?_take_of_lt hk, List.getElem?_drop, List.getElem?_drop, List.getElem?_append_left (by simp; omega), List.getElem?_take_of_lt (by omega)]
      · rw [List.getElem?_take_eq_none (by omega), List.getElem?_take_eq_none (by omega)]
    by_cases hg : g = b.next
    · refine .inr ⟨_, g, off, cp, _, e + news.length, rfl, by simpa using h1', upd_same .., by simp [appBlk, hg, List.lookup], by simp; omega, by simp [appBlk]; omega, ?_⟩
      simpa [appBlk] using hcells
    · refine .inr ⟨_, g, off, cp, _, min hi e, rfl, by simpa using h1', upd_same .., ?_, by simp; omega, by simp [appBlk]; omega, ?_⟩
      · simp only [appBlk, List.lookup]
        rw [show (g == b.next) = false by simpa using hg]
        exact lookup_cut g hi e b.gens h3
      · simpa [appBlk] using hcells

/-- An older slice, read ahead of what was appended to a newer one in its block. -/
structure Old (h : AHeap) (es : Nat) (x : AVal) (L : List (List AVal)) (y : AVal) (M : List (List AVal)) : Prop where
  at_ : SlX h es x L []
  ft : foot x = none ∨ (foot x = foot y ∧ aoff x = aoff y)
  len : L.length ≤ M.length
theorem Old.refl {h : AHeap} {es : Nat} {x : AVal} {L R : List (List AVal)} (hs : SlX h es x L R) : Old h es x L x L := ⟨hs.cut, .inr ⟨rfl, rfl⟩, Nat.le_refl _⟩
theorem Old.other {h h' : AHeap} {es : Nat} {x y z : AVal} {L M : List (List AVal)} (ho : Old h es x L y M) (hb : But z h h') (hne : ∀ id, foot y = some id → foot z ≠ some id) : Old h' es x L y M :=
  ⟨hb.sl ho.at_ fun id hf => hne id (by rcases ho.ft with e | ⟨e, _⟩ <;> rw [e] at hf; cases hf; exact hf), ho.ft, ho.len⟩
theorem Old.mono {h h' : AHeap} {es : Nat} {x y : AVal} {L M : List (List AVal)} (ho : Old h es x L y M) (hle : h.le h') : Old h' es x L y M := ⟨ho.at_.mono hle, ho.ft, ho.len⟩

section
variable {h H h0 : AHeap} {es : Nat} {x : AVal} {L R : List (List AVal)}
/-- Elements appended to a slice in a block of one's own: older slices in it still read. -/
theorem SlX.app2 {bytes : Nat} {M : List (List AVal)} {K : AVal → AHeap → Prop} (ho : SlX h es x L R) (hown : ∀ id b, foot x = some id → h id = some b → b.own = true) (hes : 0 < es) (hM : ∀ p ∈ M, p.length = es) (hb : (L.length + M.length) * bytes ≤ 140737488355328) (hm : L.length + M.length ≤ maxLen)
    (hk : ∀ x' h', SlIs h' es x' (L ++ M) → (∀ id b, foot x' = some id → h' id = some b → b.own = true) → But x h h' → (foot x' = foot x ∨ ∀ id, foot x' = some id → h id = none) → (∀ u U, Old h es u U x L → Old h' es u U x' (L ++ M)) → K x' h') : A.app h es bytes x (some M.flatten) K := by
  have hl := flat_len hM
  have hd : M.flatten.length / es = M.length := by rw [hl, Nat.mul_div_cancel _ hes]
  have hall : ∀ p ∈ (L ++ M) ++ [], p.length = es := fun p hp => by
    rw [List.append_nil] at hp
    rcases List.mem_append.1 hp with hp | hp
    · exact ho.len p (List.mem_append_left _ hp)
    · exact hM p hp
  have fresh : L = [] → foot x = none → (M ≠ [] → (M.flatten.length / es) * bytes ≤ 140737488355328 ∧ M.flatten.length / es ≤ maxLen ∧ A.new h M.flatten fun id h => K (.sl id 0 0 (M.flatten.length / es) es (M.flatten.length / es)) h) := fun e hfx hne => by
    subst e
    rw [hd]
    simp only [List.length_nil, Nat.zero_add] at hb hm
    refine ⟨hb, hm, fun id hid => ?_⟩
    refine hk _ _ ⟨hall, .inr ⟨id, 0, 0, _, blkOf M.flatten, M.flatten.length, by simp only [List.nil_append]; exact rfl, by simp, upd_same .., lookup_self .., by simp [hl], Nat.le_refl _, ?_⟩⟩ (fun j b hj hb' => ?_) (But.of_le _ (le_upd _ hid)) (.inr fun j hj => ?_) (fun u U hu => ⟨hu.at_.mono (le_upd _ hid), .inl ?_, ?_⟩)
    · simp only [List.nil_append, List.append_nil, List.length_nil, Nat.add_zero, ← hl, blkOf, List.drop_zero, List.take_length]
    · cases hj
      rw [upd_same] at hb'; cases hb'; rfl
    · cases hj; exact hid
    · rcases hu.ft with e | ⟨e, _⟩
      · exact e
      · rw [e, hfx]
    · have := hu.len; simp at this; simp [this]
  have hnil : M = [] ∨ M.flatten.length ≠ 0 := by
    cases M with
    | nil => exact .inl rfl
    | cons a r =>
      refine .inr ?_
      rw [hl, List.length_cons, Nat.add_mul]
      omega
  have h0 := ho.cut
  rcases h0.at_ with ⟨e, _, e' | e'⟩ | ⟨id, g, off, cp, b, hi, h1, h1', h2, h3, h4, hh, h5⟩
  · subst e'
    simp only [A.app]
    split
    · rename_i hz
      rcases hnil with hn | hn
      · subst hn; exact hk _ _ (by simpa using h0) (fun _ _ hj => by cases hj) (But.of_le _ (AHeap.le_refl h)) (.inl rfl) (fun u U hu => by simpa using hu)
      · exact absurd hz hn
    · rename_i hz
      exact fresh e rfl fun hn => hz (by rw [hn]; rfl)
  · subst e'
    simp only [A.app]
    split
    · rename_i hz
      rcases hnil with hn | hn
      · subst hn; exact hk _ _ (by simpa using h0) (fun _ _ hj => by cases hj) (But.of_le _ (AHeap.le_refl h)) (.inl rfl) (fun u U hu => by simpa using hu)
      · exact absurd hz hn
    · rename_i hz
      exact fresh e rfl fun hn => hz (by rw [hn]; rfl)
  · have hown' := hown id b (by rw [h1]; rfl) h2
    subst h1
    simp only [List.length_nil, Nat.add_zero, List.append_nil] at h4 h5
    simp only [A.app, h2, h3, hd]
    have hcl : off + L.length * es ≤ b.cells.length := by omega
    have htl : (b.cells.take (off + L.length * es)).length = off + L.length * es := by simp; omega
    refine ⟨trivial, hown', h4, hb, hm, hk _ _ ⟨hall, .inr ⟨id, b.next, off, _, _, off + L.length * es + M.flatten.length, by rw [List.length_append], by simp, upd_same .., lookup_self .., ?_, ?_, ?_⟩⟩ (fun j b1 hj hb1 => ?_) (fun j b1 e1 e2 => ?_) (.inl rfl) (fun u U hu => ⟨?_, ?_, ?_⟩)⟩
    · rw [List.length_append, List.length_nil, Nat.add_zero, Nat.add_mul, hl]; omega
    · simp only [appBlk, List.length_append, htl]; omega
    · simp only [appBlk, List.append_nil, List.length_nil, Nat.add_zero]
      rw [List.drop_append_of_le_length (by omega), List.length_append, Nat.add_mul, ← hl, List.flatten_append, ← h5]
      have e1 : (b.cells.take (off + L.length * es)).drop off = (b.cells.drop off).take (L.length * es) := by
        rw [List.drop_take]; congr 1; omega
      have e2 : ((b.cells.drop off).take (L.length * es)).length = L.length * es := by simp; omega
      rw [e1, List.take_of_length_le]
      rw [List.length_append, e2]; omega
    · cases hj
      rw [upd_same] at hb1; cases hb1; exact hown'
    · rw [upd_other]
      · exact e1
      · intro e; subst e; exact e2 rfl
    · by_cases hf : foot u = some id
      · refine hu.at_.oldApp hf h2 ?_ hcl _
        have e1 := hu.len
        have e2 : aoff u = off := by
          rcases hu.ft with e | ⟨_, e⟩
          · rw [e] at hf; cases hf
          · exact e
        rw [e2]
        have := Nat.mul_le_mul_right es e1
        omega
      · exact hu.at_.upd hf
    · rcases hu.ft with e | ⟨e, e'⟩
      · exact .inl e
      · exact .inr ⟨e, e'⟩
    · have := hu.len; rw [List.length_append]; omega
theorem SlX.appW2 {bytes : Nat} {y : AVal} {M R' : List (List AVal)} {K : AVal → AHeap → Prop} (ho : SlX h es x L R) (hown : ∀ id b, foot x = some id → h id = some b → b.own = true) (hs : SlX h es y M R') (hes : 0 < es) (hb : (L.length + M.length) * bytes ≤ 140737488355328) (hm : L.length + M.length ≤ maxLen)
    (hk : ∀ x' h', SlIs h' es x' (L ++ M) → (∀ id b, foot x' = some id → h' id = some b → b.own = true) → But x h h' → (foot x' = foot x ∨ ∀ id, foot x' = some id → h id = none) → (∀ u U, Old h es u U x L → Old h' es u U x' (L ++ M)) → K x' h') : A.appW h es bytes x y K := by
  unfold A.appW
  rw [hs.srcLen]
  simp only
  rw [hs.rdv]
  exact ho.app2 hown hes (fun p hp => hs.len p (List.mem_append_left _ hp)) hb hm hk
end
section
variable {h0 h h' : AHeap} {l : List Ob}
theorem Owns.ne (ho : Owns h0 h l) {i j : Nat} {a b : Ob} (hi : l[i]? = some a) (hj : l[j]? = some b) (hij : i ≠ j) : ∀ id, a.foot = some id → b.foot ≠ some id := fun id ha hb => by
  rcases Nat.lt_or_gt_of_ne hij with hlt | hgt
  · have := List.pairwise_iff_getElem.1 ho.apart i j (List.getElem?_eq_some_iff.1 hi).1 (List.getElem?_eq_some_iff.1 hj).1 hlt
    rw [(List.getElem?_eq_some_iff.1 hi).2, (List.getElem?_eq_some_iff.1 hj).2] at this
    exact this id ha hb
  · have := List.pairwise_iff_getElem.1 ho.apart j i (List.getElem?_eq_some_iff.1 hj).1 (List.getElem?_eq_some_iff.1 hi).1 hgt
    rw [(List.getElem?_eq_some_iff.1 hj).2, (List.getElem?_eq_some_iff.1 hi).2] at this
    exact this id hb ha
end

/-- Loads that tell something. -/
def Kp (h : AHeap) (p : AVal) (o : Option Nat) : Prop := match o with | none => ∃ x, A.ldv h p = some x | some n => ∃ x, A.ldnv h p n = some x
/-! Lists of lists. -/
def upf {α : Type} (f : Nat → α) (k : Nat) (v : α) : Nat → α := fun j => if j = k then v else f j
def Objs (es n : Nat) (xs : Nat → AVal) (D R : Nat → List (List AVal)) : List Ob := (List.range n).map fun j => Ob.sl es (xs j) (D j) (R j)
section
variable {es n k : Nat} {xs : Nat → AVal} {D R : Nat → List (List AVal)}
@[simp] theorem Objs.length : (Objs es n xs D R).length = n := by simp [Objs]
theorem Objs.get (hk : k < n) : (Objs es n xs D R)[k]? = some (.sl es (xs k) (D k) (R k)) := by simp [Objs, hk]
theorem Objs.set {x : AVal} {L M : List (List AVal)} : (Objs es n xs D R).set k (.sl es x L M) = Objs es n (upf xs k x) (upf D k L) (upf R k M) := by
  apply List.ext_getElem?
  intro j
  by_cases hj : j < n
  · rw [Objs.get hj]
    by_cases e : k = j
    · subst e; rw [List.getElem?_set_self (by simpa using hj)]; simp [upf]
    · rw [List.getElem?_set_ne e, Objs.get hj]; simp [upf, Ne.symm e]
  · rw [List.getElem?_eq_none (by simp; omega), List.getElem?_eq_none (by simp; omega)]
theorem Objs.congr {ys : Nat → AVal} {E S : Nat → List (List AVal)} (h : ∀ j, j < n → xs j = ys j ∧ D j = E j ∧ R j = S j) : Objs es n xs D R = Objs es n ys E S :=
  List.map_congr_left fun j hj => by obtain ⟨a, b, c⟩ := h j (by simpa using hj); rw [a, b, c]
theorem Objs.getA {l : List Ob} (hk : k < n) : (Objs es n xs D R ++ l)[k]? = some (.sl es (xs k) (D k) (R k)) := by
  rw [List.getElem?_append_left (by simpa using hk)]; exact Objs.get hk
theorem Objs.setA {l : List Ob} (hk : k < n) {x : AVal} {L M : List (List AVal)} : (Objs es n xs D R ++ l).set k (.sl es x L M) = Objs es n (upf xs k x) (upf D k L) (upf R k M) ++ l := by
  rw [List.set_append_left _ _ (by simpa using hk), Objs.set]
theorem Objs.getL {o : Ob} : (Objs es n xs D R ++ [o])[n]? = some o := by
  rw [List.getElem?_append_right (by simp)]; simp
theorem Objs.setL {o o' : Ob} : (Objs es n xs D R ++ [o]).set n o' = Objs es n xs D R ++ [o'] := by
  rw [List.set_append_right _ _ (by simp)]; simp
end
end Go.Ab

/- What is proved: what the statements ask of lists that lie apart holds of lists of one's own, whatever the elements. No conditions. -/
set_option linter.unusedVariables false
set_option linter.unusedSimpArgs false
namespace Go.Ab
variable {C : CSem} {N : Nat → Nat}

/-- What is asked of a kind of elements: marks m (their cells), v (as values). -/
structure ElSpec (C : CSem) (E : ElOps) (m : Int → Int → List AVal) (v : Int → Int → AVal) : Prop where
  pos : 0 < E.es
  small : E.bytes ≤ 1000
  len : ∀ k i, (m k i).length = E.es
  zlen : E.z.length = E.es
  new : ∀ k i, fillL [(0, E.kp, v k i)] (repL 1 E.z) = some (m k i)
  call : ∀ (k i : Int) (h : AHeap) (Q : AVal → AHeap → Prop), Q (v k i) h → C E.f [.int .i64 k, .int .i64 i] h Q
  ld : ∀ {h : AHeap} {x : AVal} {L R : List (List AVal)} {i : Nat} {k j : Int} {K : AVal → Prop}, SlX h E.es x L R → L[i]? = some (m k j) → K (v k j) → E.ld h (elp E.es x i 0) K
  kpt : ∀ {h : AHeap} {x : AVal} {L R : List (List AVal)} {i : Nat} {k j : Int}, SlX h E.es x L R → L[i]? = some (m k j) → Kp h (elp E.es x i 0) E.kp
  st : ∀ {h : AHeap} {x : AVal} {L R : List (List AVal)} {i : Nat} {c : List AVal} {k j : Int} {K : AHeap → Prop}, SlX h E.es x L R → (∀ id b, foot x = some id → h id = some b → b.own = true) → L[i]? = some c →
    (∀ h', SlX h' E.es x (L.set i (m k j)) R → (∀ id b, foot x = some id → h' id = some b → b.own = true) → But x h h' → K h') → E.st h (elp E.es x i 0) (v k j) K
  eq : ∀ {h : AHeap} {k i : Int} {K : AVal → AHeap → Prop}, K (.bool true) h → E.eq h (v k i) (v k i) K

def mkTo (m : Int → Int → List AVal) (k n : Nat) : List (List AVal) := (List.range n).map fun (i : Nat) => m (k : Int) (i : Int)
section
variable {m : Int → Int → List AVal} {k n i : Nat}
@[simp] theorem mkTo_len : (mkTo m k n).length = n := by simp [mkTo]
@[simp] theorem mkTo_zero : mkTo m k 0 = [] := rfl
end
theorem upf_self {α : Type} (f : Nat → α) (k : Nat) (v : α) : upf f k v k = v := by simp [upf]
theorem upf_ne {α : Type} (f : Nat → α) {k j : Nat} (v : α) (h : j ≠ k) : upf f k v j = f j := by simp [upf, h]
theorem upf_const {α : Type} (k : Nat) (v : α) : upf (fun _ => v) k v = fun _ => v := by funext j; unfold upf; split <;> rfl
section
variable {h : AHeap} {x : AVal} {n k : Nat} {xs : Nat → AVal} {W : List (List AVal)} (hx : SlX h 1 x (fills n fun j => [xs j]) W)
include hx
end

/-- The lists as they were (marked), the newer ones, and the list of these. -/
structure FS (E : ElOps) (m : Int → Int → List AVal) (h0 h : AHeap) (v5 : AVal) (n : Nat) (xs : Nat → AVal) (len : Nat → Nat) (ys : Nat → AVal) (F : Nat → List (List AVal)) (gs : Nat → AVal) : Prop where
  own : Owns h0 h (Objs E.es n ys F (fun _ => []) ++ [.sl 1 v5 (fills n fun j => [gs j]) []])
  old : ∀ j, j < n → Old h E.es (xs j) (mkTo m j (len j)) (ys j) (F j)

section
variable {E : ElOps} {m : Int → Int → List AVal} {v : Int → Int → AVal} {h0 h h' : AHeap} {x v5 : AVal} {n k : Nat} {xs ys gs : Nat → AVal} {len : Nat → Nat} {F : Nat → List (List AVal)} {W : List (List AVal)} {Q : AVal → AHeap → Prop}

theorem FS.grow (fs : FS E m h0 h v5 n xs len ys F gs) (hle : h.le h') : FS E m h0 h' v5 n xs len ys F gs := ⟨fs.own.grow hle, fun j hj => (fs.old j hj).mono hle⟩
theorem FS.yAt (fs : FS E m h0 h v5 n xs len ys F gs) (hk : k < n) : SlX h E.es (ys k) (F k) [] := fs.own.slAt k (Objs.getA hk)
theorem FS.turn (fs : FS E m h0 h v5 n xs len ys F gs) (hk : k < n) {y : AVal} {L : List (List AVal)} (h1 : SlX h' E.es y L []) (h2 : ∀ id b, foot y = some id → h' id = some b → b.own = true)
    (h3 : ∀ j b, h j = some b → foot (ys k) ≠ some j → h' j = some b) (h4 : foot y = foot (ys k) ∨ ∀ id, foot y = some id → h id = none) (h5 : Old h' E.es (xs k) (mkTo m k (len k)) y L) : FS E m h0 h' v5 n xs len (upf ys k y) (upf F k L) gs := by
  refine ⟨?_, fun j hj => ?_⟩
  · have := fs.own.turn k (Objs.getA hk) (o' := .sl E.es y L []) h1 h2 h3 h4
    rwa [Objs.setA hk, upf_const] at this
  · by_cases e : j = k
    · subst e; rw [upf_self, upf_self]; exact h5
    · rw [upf_ne _ _ e, upf_ne _ _ e]
      exact (fs.old j hj).other (z := ys k) h3 (fs.own.ne (Objs.getA hj) (Objs.getA hk) e)
theorem FS.store (fs : FS E m h0 h v5 n xs len ys F gs) (hk : k < n) {y : AVal} (hy : y.isCell = true) {K : AHeap → Prop} (hK : ∀ h', FS E m h0 h' v5 n xs len ys F (upf gs k y) → K h') : A.st h (elp 1 v5 k 0) y K := by
  refine fs.own.st n Objs.getL (fills_get _ hk) (by omega) hy fun h' ho hb => hK h' ⟨?_, fun j hj => ?_⟩
  · rw [Objs.setL] at ho
    have e : (fills n fun j => [gs j]).set k ([gs k].set 0 y) = fills n fun j => [upf gs k y j] := by
      rw [fills_set]
      refine fills_congr fun j hj => ?_
      unfold upf
      split <;> rfl
    rwa [e] at ho
  · exact (fs.old j hj).other hb (fs.own.ne (Objs.getA hj) Objs.getL (by omega))
theorem FS.push (S : ElSpec C E m v) (fs : FS E m h0 h v5 n xs len ys F gs) (hk : k < n) {cs : List AVal} (hcs : cs.length = E.es) (hl : (F k).length ≤ 100000100) {K : AVal → AHeap → Prop}
    (hK : ∀ y h', FS E m h0 h' v5 n xs len (upf ys k y) (upf F k (F k ++ [cs])) gs → K y h') : A.newO h (some cs) fun i h => A.appW h E.es E.bytes (ys k) (.sl i 0 0 1 E.es 1) K := fun i hi => by
  have fg := fs.grow (le_upd (blkOf cs) hi)
  have hmul := Nat.mul_le_mul (show (F k).length + 1 ≤ 100000101 by omega) S.small
  refine (fg.yAt hk).appW2 (fg.own.ownAt k (Objs.getA hk)) (M := [cs]) (R' := []) (SlX.lit (upd_same ..) (by simpa using hcs) rfl (by simp) (by simp)) S.pos (by simp only [List.length_singleton]; omega) (by simp [maxLen]; omega) fun y h' h1 h2 h3 h4 h5 => ?_
  exact hK y h' (fg.turn hk h1 h2 h3 h4 (h5 _ _ (fg.old k hk)))

end
end Go.Ab

/- What is proved: contracts of what the statements share about lists of numbers, texts: are they the same, lent with marks, kept; lists written over, and copied. No conditions. -/
set_option linter.unusedVariables false
set_option linter.unusedSimpArgs false
namespace Go.Ab
variable {C : CSem} {N : Nat → Nat}

/-- A type whose values stand as one cell. -/
structure Scal (T : Type) [DecidableEq T] where
  c : T → AVal
  cell : ∀ t, (c t).isCell = true
  eql : ∀ a b, V.bin .eql (c a) (c b) = some (.bool (decide (a = b)))
  neq : ∀ a b, V.bin .neq (c a) (c b) = some (.bool (!decide (a = b)))
theorem SlX.cell {h : AHeap} {x c : AVal} {L R : List (List AVal)} {i : Nat} (hs : SlX h 1 x L R) (hc : L[i]? = some [c]) : A.ldv h (elp 1 x i 0) = some c := by
  rw [hs.ldv hc (by omega)]; rfl
section
variable {T : Type} [DecidableEq T] (F : Scal T)
abbrev Scal.cs (t : T) : List AVal := [F.c t]

end
/-! What one owns, parted: some of it as what was there at first. -/
def AHeap.without (h : AHeap) (l : List Ob) : AHeap := ⟨fun i => bif l.any (fun o => o.foot == some i) then none else h i, by
  obtain ⟨n, k⟩ := h.2
  refine ⟨n, fun i hi => ?_⟩
  show (bif l.any (fun o => o.foot == some i) then none else h i) = none
  cases l.any (fun o => o.foot == some i)
  · exact k i hi
  · rfl⟩
theorem without_in {h : AHeap} {l : List Ob} {i : Nat} {o : Ob} (hm : o ∈ l) (hf : o.foot = some i) : h.without l i = none := by
  have : (l.any fun o => o.foot == some i) = true := List.any_eq_true.2 ⟨o, hm, by simp [hf]⟩
  show (bif l.any (fun o => o.foot == some i) then none else h i) = none
  rw [this]; rfl
theorem without_out {h : AHeap} {l : List Ob} {i : Nat} (hm : ∀ o ∈ l, o.foot ≠ some i) : h.without l i = h i := by
  have : (l.any fun o => o.foot == some i) = false := by
    rw [← Bool.not_eq_true, List.any_eq_true]
    rintro ⟨o, h1, h2⟩
    exact hm o h1 (by simpa using h2)
  show (bif l.any (fun o => o.foot == some i) then none else h i) = _
  rw [this]; rfl
theorem without_le (h : AHeap) (l : List Ob) : (h.without l).le h := fun i b e => by
  by_cases hm : ∃ o ∈ l, o.foot = some i
  · obtain ⟨o, h1, h2⟩ := hm
    rw [without_in h1 h2] at e; cases e
  · rw [without_out fun o h1 h2 => hm ⟨o, h1, h2⟩] at e; exact e
theorem Owns.out {h0 h : AHeap} {l1 l2 : List Ob} (ho : Owns h0 h (l1 ++ l2)) : Owns h0 (h.without l2) l1 ∧ Owns (h.without l2) h l2 := by
  obtain ⟨a1, a2, a3⟩ := List.pairwise_append.1 ho.apart
  have h1 : h0.le (h.without l2) := fun i b e => by
    rw [without_out fun o hm hf => by rw [(ho.own o (List.mem_append_right _ hm) i hf).1] at e; cases e]
    exact ho.le i b e
  have keep : ∀ o ∈ l1, ∀ id, o.foot = some id → (h.without l2) id = h id := fun o hm id hf => without_out fun o2 hm2 hf2 => a3 o hm o2 hm2 id hf hf2
  refine ⟨⟨h1, fun o hm => (ho.is o (List.mem_append_left _ hm)).keep fun id b hf hb => by rw [keep o hm id hf]; exact hb, fun o hm id hf => ?_, a1⟩,
    ⟨without_le h l2, fun o hm => ho.is o (List.mem_append_right _ hm), fun o hm id hf => ⟨without_in hm hf, (ho.own o (List.mem_append_right _ hm) id hf).2⟩, a2⟩⟩
  obtain ⟨b1, b2⟩ := ho.own o (List.mem_append_left _ hm) id hf
  exact ⟨b1, fun b hb => b2 b (by rw [← keep o hm id hf]; exact hb)⟩
theorem Owns.perm {h0 h : AHeap} {l l' : List Ob} (ho : Owns h0 h l) (hp : l.Perm l') : Owns h0 h l' :=
  ⟨ho.le, fun o hm => ho.is o (hp.mem_iff.2 hm), fun o hm => ho.own o (hp.mem_iff.2 hm), (hp.pairwise_iff fun {a b} hab id hb ha => hab id ha hb).1 ho.apart⟩

/-! Kinds of elements. -/
end Go.Ab

/- What is told: the types that the program's packages share, as cells. No conditions. -/
set_option linter.unusedVariables false
namespace Go.Ab
structure Window where
  From : Int
  Until : Int
  deriving DecidableEq
@[simp] def Window.cs (w : Window) : List AVal := [.int .i64 w.From, .int .i64 w.Until]
@[simp] theorem Window.eta (w : Window) : Window.mk w.From w.Until = w := rfl
structure Lot where
  Id : Int
  Item : List UInt8
  From : Int
  Until : Int
  Qty : Int
  Arrived : Bool
  deriving DecidableEq
@[simp] def Lot.cs (l : Lot) : List AVal := [.int .i64 l.Id, .str l.Item, .int .i64 l.From, .int .i64 l.Until, .int .i64 l.Qty, .bool l.Arrived]
def lotF : Flat Lot where
  cs := Lot.cs
  es := 6
  sh := [.i .i64, .s, .i .i64, .i .i64, .i .i64, .b]
  len _ := rfl
  pos := by omega
  eq a b := by
    cases a; cases b
    simp
structure Use where
  Want : Int
  Lot : Int
  Qty : Int
  deriving DecidableEq
@[simp] def Use.cs (u : Use) : List AVal := [.int .i64 u.Want, .int .i64 u.Lot, .int .i64 u.Qty]
def useF : Flat Use where
  cs := Use.cs
  es := 3
  sh := [.i .i64, .i .i64, .i .i64]
  len _ := rfl
  pos := by omega
  eq a b := by
    cases a; cases b
    simp

structure Want where
  Item : List UInt8
  Day : Int
  Qty : Int
  deriving DecidableEq
@[simp] def Want.cs (u : Want) : List AVal := [.str u.Item, .int .i64 u.Day, .int .i64 u.Qty]
def wantF : Flat Want where
  cs := Want.cs
  es := 3
  sh := [.s, .i .i64, .i .i64]
  len _ := rfl
  pos := by omega
  eq a b := by
    cases a; cases b
    simp
structure Part where
  Item : List UInt8
  Qty : Int
  deriving DecidableEq
@[simp] def Part.cs (u : Part) : List AVal := [.str u.Item, .int .i64 u.Qty]
theorem u8_eq (a b : UInt8) : decide ((a.toNat : Int) = b.toNat) = decide (a = b) := by
  rw [decide_eq_decide]
  constructor
  · intro h; exact UInt8.toNat_inj.1 (by omega)
  · intro h; rw [h]
structure Line where
  Id : Int
  Item : List UInt8
  Qty : Int
  Asked : Int
  Rank : Int
  State : UInt8
  Day : Int
  Code : List UInt8
  deriving DecidableEq
@[simp] def Line.cs (u : Line) : List AVal := [.int .i64 u.Id, .str u.Item, .int .i64 u.Qty, .int .i64 u.Asked, .int .i64 u.Rank, .int .u8 (u.State.toNat : Int), .int .i64 u.Day, .str u.Code]
def bS : Scal UInt8 where
  c b := .int .u8 b.toNat
  cell _ := rfl
  eql a b := by rw [V.bin_eql, u8_eq]
  neq a b := by rw [V.bin_neq, u8_eq]
abbrev bc : UInt8 → List AVal := bS.cs
def tS : Scal (List UInt8) where
  c b := .str b
  cell _ := rfl
  eql a b := by rw [V.bin_seql]
  neq a b := by rw [V.bin_sneq]
abbrev tc : List UInt8 → List AVal := tS.cs
def iS : Scal Int where
  c b := .int .i64 b
  cell _ := rfl
  eql a b := by rw [V.bin_eql]
  neq a b := by rw [V.bin_neq]
abbrev ic : Int → List AVal := iS.cs
def byt (m : Int) : UInt8 := UInt8.ofNat (m % 256).toNat
structure TellP where
  Err : Int
  Id : Int
  Day : Int
  Code : List UInt8
  State : UInt8
  Lots : List Lot
  Uses : List Use
  deriving DecidableEq
/-- An answer's value: its lists are x and y. -/
@[simp] def TellP.cs (t : TellP) (x y : AVal) : List AVal := [.int .i64 t.Err, .int .i64 t.Id, .int .i64 t.Day, .str t.Code, .int .u8 (t.State.toNat : Int), x, y]
structure TellAt (h : AHeap) (t : TellP) (x y : AVal) : Prop where
  lots : ∃ R, SlX h 6 x (t.Lots.map Lot.cs) R
  uses : ∃ R, SlX h 3 y (t.Uses.map Use.cs) R
theorem TellAt.mono {h H : AHeap} {t : TellP} {x y : AVal} (ht : TellAt h t x y) (hle : h.le H) : TellAt H t x y := by
  obtain ⟨⟨R, a⟩, ⟨S, b⟩⟩ := ht
  exact ⟨⟨R, a.mono hle⟩, ⟨S, b.mono hle⟩⟩
def inI64 (n : Int) : Prop := -9223372036854775808 ≤ n ∧ n ≤ 9223372036854775807
def Lot.ok (l : Lot) : Prop := inI64 l.Id ∧ inI64 l.Qty
def Use.ok (u : Use) : Prop := inI64 u.Want ∧ inI64 u.Lot ∧ inI64 u.Qty
def TellP.ok (t : TellP) : Prop := inI64 t.Id ∧ (∀ l ∈ t.Lots, l.ok) ∧ ∀ u ∈ t.Uses, u.ok

end Go.Ab

/- What is proved: arguments of the types that the packages share, read in the abstract memory. No conditions. -/
set_option linter.unusedVariables false
namespace Go.Ab
abbrev tyWindow : Ty := .st [.i .i64, .i .i64]
abbrev tyLot : Ty := .st [.i .i64, .s, tyWindow, .i .i64, .b]
abbrev tyWant : Ty := .st [.s, .i .i64, .i .i64]
theorem arg_sliceP {T : Type} {H : AHeap} {bytes es : Nat} {e : Ty} {v : AVal} (cs : T → List AVal) (P : T → Prop) (hd : ∀ p, AbsOk H e p → ∃ t, p = cs t ∧ P t) (h : AbsOk H (.sl bytes es e) [v]) :
    ∃ L : List T, SlIs H es v (L.map cs) ∧ L.length * bytes ≤ reach ∧ ∀ t ∈ L, P t := by
  obtain ⟨L, h1, h2⟩ := arg_slice (T := { t : T // P t }) (fun t => cs t.1) (fun p hp => by obtain ⟨t, e, k⟩ := hd p hp; exact ⟨⟨t, k⟩, e⟩) h
  refine ⟨L.map (·.1), ?_, by simpa using h2, fun t ht => ?_⟩
  · rw [List.map_map]; exact h1
  · obtain ⟨u, _, rfl⟩ := List.mem_map.1 ht; exact u.2
theorem dWindow {H : AHeap} {p : List AVal} (h : AbsOk H tyWindow p) : ∃ w : Window, p = w.cs := by
  obtain ⟨a, r, rfl, ⟨n, rfl, _⟩, ⟨b, r2, rfl, ⟨m, rfl, _⟩, hr⟩⟩ := h
  cases hr
  exact ⟨⟨n, m⟩, rfl⟩
theorem dLotL {H : AHeap} {p : List AVal} (h : AbsOk H tyLot p) : ∃ w : Lot, p = w.cs ∧ w.Item.length < 4611686018427387904 := by
  obtain ⟨a, r, rfl, ⟨n1, rfl, _⟩, ⟨b, r2, rfl, ⟨n2, rfl, k⟩, ⟨c, r3, rfl, hw, ⟨d, r4, rfl, ⟨n4, rfl, _⟩, ⟨e, r5, rfl, ⟨n5, rfl⟩, hr⟩⟩⟩⟩⟩ := h
  cases hr
  obtain ⟨w, rfl⟩ := dWindow hw
  exact ⟨⟨n1, n2, w.From, w.Until, n4, n5⟩, rfl, by unfold reach at k; show n2.length < _; omega⟩
theorem dLots {H : AHeap} {v : AVal} (h : AbsOk H (.sl 56 6 tyLot) [v]) : ∃ L : List Lot, SlIs H 6 v (L.map Lot.cs) ∧ L.length < 4611686018427387904 ∧ ∀ l ∈ L, l.Item.length < 4611686018427387904 := by
  obtain ⟨L, h1, h2, h3⟩ := arg_sliceP Lot.cs (fun l => l.Item.length < 4611686018427387904) (fun p hp => dLotL hp) h
  exact ⟨L, h1, by unfold reach at h2; omega, h3⟩
theorem dWant {H : AHeap} {p : List AVal} (h : AbsOk H tyWant p) : ∃ w : Want, p = w.cs := by
  obtain ⟨a, r, rfl, ⟨n1, rfl, _⟩, ⟨b, r2, rfl, ⟨n2, rfl, _⟩, ⟨c, r3, rfl, ⟨n3, rfl, _⟩, hr⟩⟩⟩ := h
  cases hr
  exact ⟨⟨n1, n2, n3⟩, rfl⟩
end Go.Ab

/- What is proved: rules by which a function's reading is tied to a printed residual, piece within piece. No conditions. -/
set_option linter.unusedVariables false
namespace Go.Ab
/-! A code's parts. -/
def cA : Code → Code
  | .seq a _ => a
  | .cond _ a _ => a
  | .block _ b => b
  | .loop b => b
  | _ => .skip
def cB : Code → Code
  | .seq _ b => b
  | .cond _ _ b => b
  | _ => .skip
def cI : Code → Nat
  | .block i _ => i
  | _ => 0
def isS : Code → Bool
  | .seq _ _ => true
  | _ => false
def isC (t : Nat) : Code → Bool
  | .cond (.tmp k) _ _ => Nat.beq k t
  | _ => false
def isK : Code → Bool
  | .block _ _ => true
  | _ => false
def isL : Code → Bool
  | .loop _ => true
  | _ => false
section
variable {P : Program} {C : CSem} {I : Bx}
theorem eS (hC : CMono C) {c : Code} {Q : Ex → Slots → AHeap → Prop} {s : Slots} {h : AHeap} (X : Slots → AHeap → Prop) (ha : bwp P C I (cA c) (Ex.then X Q) s h) (hb : ∀ s h, X s h → bwp P C I (cB c) Q s h) (hk : isS c = true := by kernel_rfl) : bwp P C I c Q s h := by
  cases c <;> first | exact seqB hC rfl hb ha | cases hk
theorem eC {c : Code} {Q : Ex → Slots → AHeap → Prop} {p q : Prop} {s : Slots} {h : AHeap} (t : Nat) (hr : A.cond (s t) p q) (hx : p → bwp P C I (cA c) Q s h) (hy : q → bwp P C I (cB c) Q s h) (hk : isC t c = true := by kernel_rfl) : bwp P C I c Q s h := by
  cases c with
  | cond o x y =>
    cases o with
    | tmp k =>
      have e : k = t := Nat.eq_of_beq_eq_true hk
      subst e
      exact condB rfl hx hy hr
    | _ => cases hk
  | _ => cases hk
theorem eK {c : Code} {Q : Ex → Slots → AHeap → Prop} {s : Slots} {h : AHeap} (hb : bwp P C I (cA c) (Ex.inBlock (cI c) Q) s h) (hk : isK c = true := by kernel_rfl) : bwp P C I c Q s h := by
  cases c <;> first | exact hb | cases hk
theorem eL (hC : CMono C) {c : Code} {Q : Ex → Slots → AHeap → Prop} {s : Slots} {h : AHeap} (keep live : List Nat) (G : List AVal → List AVal → AHeap → (List AVal → AHeap → Prop) → Prop)
    (hr : LoopR (G (keep.map s)) (live.map s) h)
    (hG : ∀ (Y : List AVal → AHeap → Prop) (s : Slots) (h : AHeap), G (keep.map s) (live.map s) h Y → bwp P C I (cA c) (Ex.then (fun s h => Y (live.map s) h) Q) s h)
    (hk : isL c = true := by kernel_rfl) (hw : (keep.all fun k => !memB (writesB P I (cA c)) k) = true := by kernel_rfl) : bwp P C I c Q s h := by
  cases c <;> first | exact loopB hC keep live rfl hw hG hr | cases hk
/-- A piece that is read at once. -/
theorem e1 {c : Code} {Q : Ex → Slots → AHeap → Prop} {s : Slots} {h : AHeap} {p : Prop} (hR : p) (e : bwp P C I c Q s h = p := by kernel_rfl) : bwp P C I c Q s h := e.mpr hR

/-- A whole function. -/
theorem eF (hm : P.follows .mixedOrders = true) {f : FuncId} {fn : Func} {c : Code} {I : Bx} {args : List AVal} {h : AHeap} {Q : AVal → AHeap → Prop}
    (hx : CMono (AC P) → bwp P (AC P) I c (retB P I fn.results.toList (dn Q)) (startS args) h) (hf : P.funcs[f]? = some fn := by kernel_rfl) (hb : fn.body = some c := by kernel_rfl) (h1 : (fn.name == "runtime.NumGoroutine") = false := by kernel_rfl)
    (hc : codeIn fn.ntmps c = true := by kernel_rfl) (hl : Nat.ble args.length fn.ntmps = true := by kernel_rfl) (hB : Nat.ble args.length I.B = true := by kernel_rfl) (hk : chkC P I c = true := by kernel_rfl) : AC P f args h Q :=
  AC_drop (AC_introB hm hf hb (callFunc_enter hf (by rw [hb]; rfl) h1) hc (Nat.le_of_ble_eq_true hl) (Nat.le_of_ble_eq_true hB) hk (hx (AC_cmono P)))
end
end Go.Ab

/- What is told: residuals: what each function does in the abstract memory, printed by a program of mine. Definitions alone. -/
set_option linter.unusedVariables false
namespace Go.Ab
@[simp] def amount_Right.k1 (C : CSem) (N : Nat → Nat) (Q : AVal → AHeap → Prop) (v0 : AVal) (h : AHeap) : Prop :=
  B.pv (V.bin .geq v0 (.int .i64 0)) fun v4 =>
    B.gd h v4 true (fun K => K v0 h) fun v6 h =>
    B.gd h v4 true (fun K => B.pv (V.bin .leq v6 (.int .i64 1125899906842624)) fun v => K v h) fun v7 h =>
    B.pick v4 v7 (.bool false) fun v8 =>
    Q v8 h
/-- storeman/amount.Right -/
@[simp] def amount_Right.cps (C : CSem) (N : Nat → Nat) (v0 : AVal) (h : AHeap) (Q : AVal → AHeap → Prop) : Prop :=
  amount_Right.k1 C N Q v0 h
def amount_Right.Imp (C : CSem) (N : Nat → Nat) : Prop := ∀ (v0 : AVal) (h : AHeap) (Q : AVal → AHeap → Prop), amount_Right.cps C N v0 h (dn Q) → C (N 247) [v0] h Q
end Go.Ab

/- What is told: residuals: what each function does in the abstract memory, printed by a program of mine. Definitions alone. -/
set_option linter.unusedVariables false
namespace Go.Ab
@[simp] def cmp_Compare_int.k1 (C : CSem) (N : Nat → Nat) (Q : AVal → AHeap → Prop) (v0 v1 : AVal) (h : AHeap) : Prop :=
  B.call C (N 171) [v0] h fun v8 h =>
    B.call C (N 171) [v1] h fun v10 h =>
    B.cond v8
    (B.cond v10
    (Q (.int .i64 0) h)
    (Q (.int .i64 (-1)) h))
    (B.cond v10
    (Q (.int .i64 1) h)
    (B.pv (V.bin .lss v0 v1) fun v16 =>
    B.cond v16
    (Q (.int .i64 (-1)) h)
    (B.pv (V.bin .gtr v0 v1) fun v19 =>
    B.cond v19
    (Q (.int .i64 1) h)
    (Q (.int .i64 0) h))))
/-- cmp.Compare[int] -/
@[simp] def cmp_Compare_int.cps (C : CSem) (N : Nat → Nat) (v0 v1 : AVal) (h : AHeap) (Q : AVal → AHeap → Prop) : Prop :=
  cmp_Compare_int.k1 C N Q v0 v1 h
def cmp_Compare_int.Imp (C : CSem) (N : Nat → Nat) : Prop := ∀ (v0 v1 : AVal) (h : AHeap) (Q : AVal → AHeap → Prop), cmp_Compare_int.cps C N v0 v1 h (dn Q) → C (N 157) [v0, v1] h Q
@[simp] def cmp_Or_int.k1 (C : CSem) (N : Nat → Nat) (Q : AVal → AHeap → Prop) (Y1 : List AVal → AHeap → Prop) (v3 v6 v7 v8 : AVal) (h : AHeap) : Prop :=
  B.pv (V.bin .lss v8 v7) fun v9 =>
    B.cond v9
    (B.pv (V.idxS 1 v6 v8) fun v10 =>
    B.ld h v10 fun v11 =>
    B.pv (V.bin .neq v11 v3) fun v14 =>
    B.cond v14
    (Q v11 h)
    (B.pv (V.bin .add v8 (.int .i64 1)) fun v16 =>
    Y1 [v16] h))
    (Q v3 h)
@[simp] def cmp_Or_int.l2 (C : CSem) (N : Nat → Nat) (Q : AVal → AHeap → Prop) (v3 v6 v7 : AVal) : List AVal → AHeap → (List AVal → AHeap → Prop) → Prop
  | [v8], h, Y1 => cmp_Or_int.k1 C N Q Y1 v3 v6 v7 v8 h
  | _, _, _ => False
/-- cmp.Or[int] -/
@[simp] def cmp_Or_int.cps (C : CSem) (N : Nat → Nat) (v0 : AVal) (h : AHeap) (Q : AVal → AHeap → Prop) : Prop :=
  B.pv (V.lenSl v0) fun v7 =>
    LoopR (cmp_Or_int.l2 C N Q (.int .i64 0) v0 v7) [(.int .i64 0)] h
def cmp_Or_int.Imp (C : CSem) (N : Nat → Nat) : Prop := ∀ (v0 : AVal) (h : AHeap) (Q : AVal → AHeap → Prop), cmp_Or_int.cps C N v0 h (dn Q) → C (N 158) [v0] h Q
/-- cmp.isNaN[int] -/
@[simp] def cmp_isNaN_int.cps (C : CSem) (N : Nat → Nat) (v0 : AVal) (h : AHeap) (Q : AVal → AHeap → Prop) : Prop :=
  B.pv (V.bin .neq v0 v0) fun v5 =>
    Q v5 h
def cmp_isNaN_int.Imp (C : CSem) (N : Nat → Nat) : Prop := ∀ (v0 : AVal) (h : AHeap) (Q : AVal → AHeap → Prop), cmp_isNaN_int.cps C N v0 h (dn Q) → C (N 171) [v0] h Q
end Go.Ab

/- What is told: residuals: what each function does in the abstract memory, printed by a program of mine. Definitions alone. -/
set_option linter.unusedVariables false
namespace Go.Ab
@[simp] def code_Right.k1 (C : CSem) (N : Nat → Nat) (Q : AVal → AHeap → Prop) (v0 : AVal) (h : AHeap) : Prop :=
  B.pv (V.bin .neq v0 (.str [])) fun v34 =>
    B.gd h v34 true (fun K => K v0 h) fun v36 h =>
    B.gd h v34 true (fun K => B.pv (V.lenStr v36) fun v => K v h) fun v37 h =>
    B.gd h v34 true (fun K => B.pv (V.bin .leq v37 (.int .i64 12)) fun v => K v h) fun v38 h =>
    B.pick v34 v38 (.bool false) fun v39 =>
    Q v39 h
@[simp] def code_Right.k2 (C : CSem) (N : Nat → Nat) (Q : AVal → AHeap → Prop) (Y1 : List AVal → AHeap → Prop) (v0 v6 : AVal) (h : AHeap) : Prop :=
  B.nextStr h v6 fun v7 h =>
    B.pv (V.ext 0 v7) fun v8 =>
    B.cond v8
    (B.pv (V.ext 1 v7) fun v9 =>
    B.pv (V.ext 2 v7) fun v10 =>
    B.pv (V.bin .geq v10 (.int .i32 65)) fun v13 =>
    B.gd h v13 true (fun K => K v10 h) fun v15 h =>
    B.gd h v13 true (fun K => B.pv (V.bin .leq v15 (.int .i32 90)) fun v => K v h) fun v16 h =>
    B.pick v13 v16 (.bool false) fun v17 =>
    B.cond v17
    (Y1 [] h)
    (B.pv (V.bin .gtr v9 (.int .i64 0)) fun v20 =>
    B.gd h v20 true (fun K => K v10 h) fun v22 h =>
    B.gd h v20 true (fun K => B.pv (V.bin .geq v22 (.int .i32 48)) fun v => K v h) fun v23 h =>
    B.gd h v20 true (fun K => K v23 h) fun v24 h =>
    B.gd h v24 true (fun K => K v10 h) fun v25 h =>
    B.gd h v24 true (fun K => B.pv (V.bin .leq v25 (.int .i32 57)) fun v => K v h) fun v26 h =>
    B.gd h v20 true (fun K => B.pick v24 v26 (.bool false) fun v => K v h) fun v27 h =>
    B.gd h v20 true (fun K => K v27 h) fun v28 h =>
    B.gd h v28 false (fun K => K v10 h) fun v29 h =>
    B.gd h v28 false (fun K => B.pv (V.bin .eql v29 (.int .i32 45)) fun v => K v h) fun v30 h =>
    B.gd h v20 true (fun K => B.pick v28 (.bool true) v30 fun v => K v h) fun v31 h =>
    B.pick v20 v31 (.bool false) fun v32 =>
    B.cond v32
    (Y1 [] h)
    (Q (.bool false) h)))
    (code_Right.k1 C N Q v0 h)
@[simp] def code_Right.l3 (C : CSem) (N : Nat → Nat) (Q : AVal → AHeap → Prop) (v0 v6 : AVal) : List AVal → AHeap → (List AVal → AHeap → Prop) → Prop
  | [], h, Y1 => code_Right.k2 C N Q Y1 v0 v6 h
  | _, _, _ => False
/-- storeman/code.Right -/
@[simp] def code_Right.cps (C : CSem) (N : Nat → Nat) (v0 : AVal) (h : AHeap) (Q : AVal → AHeap → Prop) : Prop :=
  B.rangeStr h v0 fun v6 h =>
    LoopR (code_Right.l3 C N Q v0 v6) [] h
def code_Right.Imp (C : CSem) (N : Nat → Nat) : Prop := ∀ (v0 : AVal) (h : AHeap) (Q : AVal → AHeap → Prop), code_Right.cps C N v0 h (dn Q) → C (N 53) [v0] h Q
end Go.Ab

/- What is told: residuals: what each function does in the abstract memory, printed by a program of mine. Definitions alone. -/
set_option linter.unusedVariables false
namespace Go.Ab
/-- storeman/flow.Fits -/
@[simp] def flow_Fits.cps (C : CSem) (N : Nat → Nat) (v0 v1 : AVal) (h : AHeap) (Q : AVal → AHeap → Prop) : Prop :=
  B.call C (N 232) [v0, v1] h fun v11 h =>
    B.pv (V.ext 0 v11) fun v12 =>
    B.pv (V.ext 1 v11) fun v13 =>
    B.pv (V.ext 2 v11) fun v14 =>
    Q v14 h
def flow_Fits.Imp (C : CSem) (N : Nat → Nat) : Prop := ∀ (v0 v1 : AVal) (h : AHeap) (Q : AVal → AHeap → Prop), flow_Fits.cps C N v0 v1 h (dn Q) → C (N 215) [v0, v1] h Q
@[simp] def flow_Fill.k1 (C : CSem) (N : Nat → Nat) (Q : AVal → AHeap → Prop) (v0 v1 : AVal) (h : AHeap) : Prop :=
  B.call C (N 232) [v0, v1] h fun v12 h =>
    B.pv (V.ext 0 v12) fun v13 =>
    B.pv (V.ext 1 v12) fun v14 =>
    B.pv (V.ext 2 v12) fun v15 =>
    Q (.tup [v13, v15]) h
/-- storeman/flow.Fill -/
@[simp] def flow_Fill.cps (C : CSem) (N : Nat → Nat) (v0 v1 : AVal) (h : AHeap) (Q : AVal → AHeap → Prop) : Prop :=
  flow_Fill.k1 C N Q v0 v1 h
def flow_Fill.Imp (C : CSem) (N : Nat → Nat) : Prop := ∀ (v0 v1 : AVal) (h : AHeap) (Q : AVal → AHeap → Prop), flow_Fill.cps C N v0 v1 h (dn Q) → C (N 219) [v0, v1] h Q
@[simp] def flow_Left.k1 (C : CSem) (N : Nat → Nat) (Q : AVal → AHeap → Prop) (Y1 : List AVal → AHeap → Prop) (v7 v9 v21 v22 v23 : AVal) (h : AHeap) : Prop :=
  B.pv (V.bin .lss v23 v22) fun v24 =>
    B.cond v24
    (B.pv (V.idxS 6 v21 v23) fun v25 =>
    B.ldn h v25 6 fun v26 =>
    B.pv (V.setN 0 6 v26 (.agg [.int .i64 0, .str [], .int .i64 0, .int .i64 0, .int .i64 0, .bool false])) fun c11 =>
    B.al c11 (B.pv (V.field1 0 c11) fun v29 =>
    B.pv (A.lkp h (some .i) (some (.int .i64 0)) false v7 v29) fun v30 =>
    B.al c11 (B.pv (V.setF 4 v30 c11) fun c11 =>
    B.al c11 (B.pv (V.field1 4 c11) fun v33 =>
    B.pv (V.bin .gtr v33 (.int .i64 0)) fun v34 =>
    B.cond v34
    (B.pv (V.fieldN 0 6 c11) fun v36 =>
    B.newO h (fillL [(0, some 6, v36)] (repL 1 [.int .i64 0, .str [], .int .i64 0, .int .i64 0, .int .i64 0, .bool false])) fun i37 h =>
    B.appW h 6 56 v9 (.sl i37 0 0 1 6 1) fun v38 h =>
    B.pv (V.bin .add v23 (.int .i64 1)) fun v39 =>
    Y1 [v38, v39] h)
    (B.pv (V.bin .add v23 (.int .i64 1)) fun v39 =>
    Y1 [v9, v39] h)))))
    (Q (.tup [v9, (.bool true)]) h)
@[simp] def flow_Left.l2 (C : CSem) (N : Nat → Nat) (Q : AVal → AHeap → Prop) (v7 v21 v22 : AVal) : List AVal → AHeap → (List AVal → AHeap → Prop) → Prop
  | [v9, v23], h, Y1 => flow_Left.k1 C N Q Y1 v7 v9 v21 v22 v23 h
  | _, _, _ => False
@[simp] def flow_Left.k3 (C : CSem) (N : Nat → Nat) (Q : AVal → AHeap → Prop) (v0 v7 v8 : AVal) (h : AHeap) : Prop :=
  B.pv (V.un .not v8) fun v20 =>
    B.cond v20
    (Q (.tup [.nils, (.bool false)]) h)
    (B.pv (V.lenSl v0) fun v22 =>
    LoopR (flow_Left.l2 C N Q v7 v0 v22) [.nils, (.int .i64 0)] h)
@[simp] def flow_Left.k4 (C : CSem) (N : Nat → Nat) (Q : AVal → AHeap → Prop) (v0 v1 : AVal) (h : AHeap) : Prop :=
  B.call C (N 232) [v0, v1] h fun v15 h =>
    B.pv (V.ext 0 v15) fun v16 =>
    B.pv (V.ext 1 v15) fun v17 =>
    B.pv (V.ext 2 v15) fun v18 =>
    flow_Left.k3 C N Q v0 v17 v18 h
/-- storeman/flow.Left -/
@[simp] def flow_Left.cps (C : CSem) (N : Nat → Nat) (v0 v1 : AVal) (h : AHeap) (Q : AVal → AHeap → Prop) : Prop :=
  flow_Left.k4 C N Q v0 v1 h
def flow_Left.Imp (C : CSem) (N : Nat → Nat) : Prop := ∀ (v0 v1 : AVal) (h : AHeap) (Q : AVal → AHeap → Prop), flow_Left.cps C N v0 v1 h (dn Q) → C (N 221) [v0, v1] h Q
@[simp] def flow_fill.k1 (C : CSem) (N : Nat → Nat) (Q : AVal → AHeap → Prop) (Y1 : List AVal → AHeap → Prop) (v1 v7 v8 v11 v15 v49 v50 v51 : AVal) (h : AHeap) : Prop :=
  B.pv (V.bin .gtr v15 (.int .i64 0)) fun v105 =>
    B.cond v105
    (Q (.tup [.nils, .nilm, (.bool false)]) h)
    (B.pv (V.bin .add v51 (.int .i64 1)) fun v106 =>
    Y1 [v11, v106] h)
@[simp] def flow_fill.k2 (C : CSem) (N : Nat → Nat) (Q : AVal → AHeap → Prop) (Y1 : List AVal → AHeap → Prop) (Y2 : List AVal → AHeap → Prop) (v1 v7 v8 v11 v13 v15 v49 v50 v51 v64 v65 v66 c14 : AVal) (h : AHeap) : Prop :=
  B.pv (V.bin .lss v66 v65) fun v67 =>
    B.cond v67
    (B.pv (V.idxS 6 v64 v66) fun v68 =>
    B.ldn h v68 6 fun v69 =>
    B.pv (V.setN 0 6 v69 (.agg [.int .i64 0, .str [], .int .i64 0, .int .i64 0, .int .i64 0, .bool false])) fun c17 =>
    B.al c17 (B.pv (V.field1 0 c17) fun v73 =>
    B.pv (A.lkp h (some .i) (some (.int .i64 0)) false v7 v73) fun v74 =>
    B.pv (V.min2 v15 v74) fun v75 =>
    B.pv (V.bin .eql v75 (.int .i64 0)) fun v77 =>
    B.al c17 (B.gd h v77 false (fun K => K .undef h) fun _ h =>
    B.gd h v77 false (fun K => B.pv (V.fieldN 2 2 c17) fun v => K v h) fun v80 h =>
    B.al c14 (B.gd h v77 false (fun K => K .undef h) fun _ h =>
    B.gd h v77 false (fun K => B.pv (V.field1 1 c14) fun v => K v h) fun v82 h =>
    B.gd h v77 false (fun K => B.call C (N 7) [v80, v82] h K) fun v83 h =>
    B.gd h v77 false (fun K => B.pv (V.un .not v83) fun v => K v h) fun v84 h =>
    B.pick v77 (.bool true) v84 fun v85 =>
    B.cond v85
    (B.pv (V.bin .add v66 (.int .i64 1)) fun v103 =>
    Y2 [v11, v15, v103] h)
    (B.al c17 (B.pv (V.field1 0 c17) fun v88 =>
    B.pv (A.lkp h (some .i) (some (.int .i64 0)) false v7 v88) fun v89 =>
    B.pv (V.bin .sub v89 v75) fun v91 =>
    B.mset h .i v7 v88 v91 fun h =>
    B.pv (V.bin .sub v15 v75) fun v94 =>
    B.al c17 (B.pv (V.field1 0 c17) fun v98 =>
    B.pv (A.bld [(0, none, v13), (1, none, v98), (2, none, v75)] [.int .i64 0, .int .i64 0, .int .i64 0]) fun v100 =>
    B.newO h (fillL [(0, some 3, v100)] (repL 1 [.int .i64 0, .int .i64 0, .int .i64 0])) fun i101 h =>
    B.appW h 3 24 v11 (.sl i101 0 0 1 3 1) fun v102 h =>
    B.pv (V.bin .add v66 (.int .i64 1)) fun v103 =>
    Y2 [v102, v94, v103] h)))))))
    (flow_fill.k1 C N Q Y1 v1 v7 v8 v11 v15 v49 v50 v51 h)
@[simp] def flow_fill.l3 (C : CSem) (N : Nat → Nat) (Q : AVal → AHeap → Prop) (Y1 : List AVal → AHeap → Prop) (v1 v7 v8 v13 v49 v50 v51 v64 v65 c14 : AVal) : List AVal → AHeap → (List AVal → AHeap → Prop) → Prop
  | [v11, v15, v66], h, Y2 => flow_fill.k2 C N Q Y1 Y2 v1 v7 v8 v11 v13 v15 v49 v50 v51 v64 v65 v66 c14 h
  | _, _, _ => False
@[simp] def flow_fill.k4 (C : CSem) (N : Nat → Nat) (Q : AVal → AHeap → Prop) (Y1 : List AVal → AHeap → Prop) (v1 v7 v8 v11 v13 v15 v49 v50 v51 c14 : AVal) (h : AHeap) : Prop :=
  B.al c14 (B.pv (V.field1 0 c14) fun v63 =>
    B.pv (A.lkp h (some .s) (some (.nils)) false v8 v63) fun v64 =>
    B.pv (V.lenSl v64) fun v65 =>
    LoopR (flow_fill.l3 C N Q Y1 v1 v7 v8 v13 v49 v50 v51 v64 v65 c14) [v11, v15, (.int .i64 0)] h)
@[simp] def flow_fill.k5 (C : CSem) (N : Nat → Nat) (Q : AVal → AHeap → Prop) (Y1 : List AVal → AHeap → Prop) (v1 v7 v8 v11 v13 v49 v50 v51 : AVal) (h : AHeap) : Prop :=
  B.pv (V.idxS 3 v1 v13) fun v57 =>
    B.ldn h v57 3 fun v58 =>
    B.pv (V.setN 0 3 v58 (.agg [.str [], .int .i64 0, .int .i64 0])) fun c14 =>
    B.al c14 (B.pv (V.field1 2 c14) fun v60 =>
    flow_fill.k4 C N Q Y1 v1 v7 v8 v11 v13 v60 v49 v50 v51 c14 h)
@[simp] def flow_fill.k6 (C : CSem) (N : Nat → Nat) (Q : AVal → AHeap → Prop) (Y1 : List AVal → AHeap → Prop) (v1 v7 v8 v11 v49 v50 v51 v52 : AVal) (h : AHeap) : Prop :=
  B.cond v52
    (B.pv (V.idxS 1 v49 v51) fun v53 =>
    B.ld h v53 fun v54 =>
    flow_fill.k5 C N Q Y1 v1 v7 v8 v11 v54 v49 v50 v51 h)
    (Q (.tup [v11, v7, (.bool true)]) h)
@[simp] def flow_fill.l7 (C : CSem) (N : Nat → Nat) (Q : AVal → AHeap → Prop) (v1 v7 v8 v49 v50 : AVal) : List AVal → AHeap → (List AVal → AHeap → Prop) → Prop
  | [v11, v51], h, Y1 => B.pv (V.bin .lss v51 v50) fun v52 =>
    flow_fill.k6 C N Q Y1 v1 v7 v8 v11 v49 v50 v51 v52 h
  | _, _, _ => False
@[simp] def flow_fill.k8 (C : CSem) (N : Nat → Nat) (Q : AVal → AHeap → Prop) (Y3 : List AVal → AHeap → Prop) (v1 v7 v8 v26 v27 v28 : AVal) (h : AHeap) : Prop :=
  B.pv (V.bin .lss v28 v27) fun v29 =>
    B.cond v29
    (B.pv (V.idxS 6 v26 v28) fun v30 =>
    B.ldn h v30 6 fun v31 =>
    B.pv (V.setN 0 6 v31 (.agg [.int .i64 0, .str [], .int .i64 0, .int .i64 0, .int .i64 0, .bool false])) fun c10 =>
    B.al c10 (B.pv (V.field1 0 c10) fun v34 =>
    B.al c10 (B.pv (V.field1 4 c10) fun v36 =>
    B.mset h .i v7 v34 v36 fun h =>
    B.al c10 (B.pv (V.field1 1 c10) fun v39 =>
    B.al c10 (B.pv (V.field1 1 c10) fun v42 =>
    B.pv (V.fieldN 0 6 c10) fun v44 =>
    B.al c10 (B.pv (A.lkp h (some .s) (some (.nils)) false v8 v42) fun v43 =>
    B.newO h (fillL [(0, some 6, v44)] (repL 1 [.int .i64 0, .str [], .int .i64 0, .int .i64 0, .int .i64 0, .bool false])) fun i45 h =>
    B.appW h 6 56 v43 (.sl i45 0 0 1 6 1) fun v46 h =>
    B.mset h .s v8 v39 v46 fun h =>
    B.pv (V.bin .add v28 (.int .i64 1)) fun v47 =>
    Y3 [v47] h))))))
    (B.call C (N 240) [v1] h fun v49 h =>
    B.pv (V.lenSl v49) fun v50 =>
    LoopR (flow_fill.l7 C N Q v1 v7 v8 v49 v50) [.nils, (.int .i64 0)] h)
@[simp] def flow_fill.l9 (C : CSem) (N : Nat → Nat) (Q : AVal → AHeap → Prop) (v1 v7 v8 v26 v27 : AVal) : List AVal → AHeap → (List AVal → AHeap → Prop) → Prop
  | [v28], h, Y3 => flow_fill.k8 C N Q Y3 v1 v7 v8 v26 v27 v28 h
  | _, _, _ => False
@[simp] def flow_fill.k10 (C : CSem) (N : Nat → Nat) (Q : AVal → AHeap → Prop) (v0 v1 v7 : AVal) (h : AHeap) : Prop :=
  B.newMap h fun v24 h =>
    B.call C (N 149) [v0] h fun v26 h =>
    B.pv (V.lenSl v26) fun v27 =>
    LoopR (flow_fill.l9 C N Q v1 v7 v24 v26 v27) [(.int .i64 0)] h
@[simp] def flow_fill.k11 (C : CSem) (N : Nat → Nat) (Q : AVal → AHeap → Prop) (v0 v1 : AVal) (h : AHeap) : Prop :=
  B.call C (N 239) [v0, v1] h fun v21 h =>
    B.pv (V.un .not v21) fun v22 =>
    B.cond v22
    (Q (.tup [.nils, .nilm, (.bool false)]) h)
    (B.newMap h fun v23 h =>
    flow_fill.k10 C N Q v0 v1 v23 h)
/-- storeman/flow.fill -/
@[simp] def flow_fill.cps (C : CSem) (N : Nat → Nat) (v0 v1 : AVal) (h : AHeap) (Q : AVal → AHeap → Prop) : Prop :=
  flow_fill.k11 C N Q v0 v1 h
def flow_fill.Imp (C : CSem) (N : Nat → Nat) : Prop := ∀ (v0 v1 : AVal) (h : AHeap) (Q : AVal → AHeap → Prop), flow_fill.cps C N v0 v1 h (dn Q) → C (N 232) [v0, v1] h Q
@[simp] def flow_together.k1 (C : CSem) (N : Nat → Nat) (Q : AVal → AHeap → Prop) (Y1 : List AVal → AHeap → Prop) (v1 v5 v17 v18 v19 : AVal) (h : AHeap) : Prop :=
  B.pv (V.bin .lss v19 v18) fun v20 =>
    B.cond v20
    (B.pv (V.idxS 6 v17 v19) fun v21 =>
    B.ldn h v21 6 fun v22 =>
    B.pv (V.setN 0 6 v22 (.agg [.int .i64 0, .str [], .int .i64 0, .int .i64 0, .int .i64 0, .bool false])) fun c7 =>
    B.pv (V.fieldN 0 6 c7) fun v23 =>
    B.call C (N 52) [v23] h fun v24 h =>
    B.pv (V.un .not v24) fun v25 =>
    B.gd h v25 false (fun K => K v5 h) fun v27 h =>
    B.al c7 (B.gd h v25 false (fun K => K .undef h) fun _ h =>
    B.gd h v25 false (fun K => B.pv (V.field1 0 c7) fun v => K v h) fun v29 h =>
    B.gd h v25 false (fun K => B.pv (A.lkp h (some .i) (some (.bool false)) false v27 v29) fun v => K v h) fun v30 h =>
    B.pick v25 (.bool true) v30 fun v31 =>
    B.cond v31
    (Q (.bool false) h)
    (B.al c7 (B.pv (V.field1 0 c7) fun v34 =>
    B.mset h .i v5 v34 (.bool true) fun h =>
    B.pv (V.bin .add v19 (.int .i64 1)) fun v35 =>
    Y1 [v35] h))))
    (B.call C (N 237) [v1, (.fn (N 243) [] [])] h fun v37 h =>
    B.pv (V.un .not v37) fun v38 =>
    Q v38 h)
@[simp] def flow_together.l2 (C : CSem) (N : Nat → Nat) (Q : AVal → AHeap → Prop) (v1 v5 v17 v18 : AVal) : List AVal → AHeap → (List AVal → AHeap → Prop) → Prop
  | [v19], h, Y1 => flow_together.k1 C N Q Y1 v1 v5 v17 v18 v19 h
  | _, _, _ => False
@[simp] def flow_together.k3 (C : CSem) (N : Nat → Nat) (Q : AVal → AHeap → Prop) (v0 v1 : AVal) (h : AHeap) : Prop :=
  B.pv (V.lenSl v0) fun v9 =>
    B.pv (V.bin .gtr v9 (.int .i64 300)) fun v10 =>
    B.gd h v10 false (fun K => K v1 h) fun v12 h =>
    B.gd h v10 false (fun K => B.pv (V.lenSl v12) fun v => K v h) fun v13 h =>
    B.gd h v10 false (fun K => B.pv (V.bin .gtr v13 (.int .i64 20000)) fun v => K v h) fun v14 h =>
    B.pick v10 (.bool true) v14 fun v15 =>
    B.cond v15
    (Q (.bool false) h)
    (B.newMap h fun v16 h =>
    B.pv (V.lenSl v0) fun v18 =>
    LoopR (flow_together.l2 C N Q v1 v16 v0 v18) [(.int .i64 0)] h)
/-- storeman/flow.together -/
@[simp] def flow_together.cps (C : CSem) (N : Nat → Nat) (v0 v1 : AVal) (h : AHeap) (Q : AVal → AHeap → Prop) : Prop :=
  flow_together.k3 C N Q v0 v1 h
def flow_together.Imp (C : CSem) (N : Nat → Nat) : Prop := ∀ (v0 v1 : AVal) (h : AHeap) (Q : AVal → AHeap → Prop), flow_together.cps C N v0 v1 h (dn Q) → C (N 239) [v0, v1] h Q
@[simp] def flow_days.k1 (C : CSem) (N : Nat → Nat) (Q : AVal → AHeap → Prop) (Y1 : List AVal → AHeap → Prop) (v1 v3 v9 v10 : AVal) (h : AHeap) : Prop :=
  B.pv (V.bin .lss v10 v9) fun v11 =>
    B.cond v11
    (B.pv (V.idxS 1 v3 v10) fun v16 =>
    B.st h v16 v10 fun h =>
    B.pv (V.bin .add v10 (.int .i64 1)) fun v17 =>
    Y1 [v17] h)
    (B.call C (N 246) [v3, (.fn (N 245) [] [v1])] h fun v20 h =>
    Q v3 h)
@[simp] def flow_days.l2 (C : CSem) (N : Nat → Nat) (Q : AVal → AHeap → Prop) (v1 v3 v9 : AVal) : List AVal → AHeap → (List AVal → AHeap → Prop) → Prop
  | [v10], h, Y1 => flow_days.k1 C N Q Y1 v1 v3 v9 v10 h
  | _, _, _ => False
@[simp] def flow_days.k3 (C : CSem) (N : Nat → Nat) (Q : AVal → AHeap → Prop) (v1 : AVal) (h : AHeap) : Prop :=
  B.ld h v1 fun v5 =>
    B.pv (V.lenSl v5) fun v6 =>
    0 < 1 ∧ B.mks h 8 (some [.int .i64 0]) v6 v6 fun v7 h =>
    B.pv (V.lenSl v7) fun v9 =>
    LoopR (flow_days.l2 C N Q v1 v7 v9) [(.int .i64 0)] h
/-- storeman/flow.days -/
@[simp] def flow_days.cps (C : CSem) (N : Nat → Nat) (v0 : AVal) (h : AHeap) (Q : AVal → AHeap → Prop) : Prop :=
  B.newO h (A.cells1 v0) fun i1 h =>
    flow_days.k3 C N Q (.ptr i1 0 0) h
def flow_days.Imp (C : CSem) (N : Nat → Nat) : Prop := ∀ (v0 : AVal) (h : AHeap) (Q : AVal → AHeap → Prop), flow_days.cps C N v0 h (dn Q) → C (N 240) [v0] h Q
@[simp] def flow_together_1.k1 (C : CSem) (N : Nat → Nat) (Q : AVal → AHeap → Prop) (v0 : AVal) (h : AHeap) : Prop :=
  B.pv (A.boxN 3 v0) fun c1 =>
    B.al c1 (B.pv (V.field1 0 c1) fun v4 =>
    B.call C (N 53) [v4] h fun v5 h =>
    B.pv (V.un .not v5) fun v6 =>
    B.al c1 (B.gd h v6 false (fun K => K .undef h) fun _ h =>
    B.gd h v6 false (fun K => B.pv (V.field1 1 c1) fun v => K v h) fun v9 h =>
    B.gd h v6 false (fun K => B.pv (V.bin .lss v9 (.int .i64 0)) fun v => K v h) fun v10 h =>
    B.pick v6 (.bool true) v10 fun v11 =>
    B.al c1 (B.gd h v11 false (fun K => K .undef h) fun _ h =>
    B.gd h v11 false (fun K => B.pv (V.field1 1 c1) fun v => K v h) fun v14 h =>
    B.gd h v11 false (fun K => B.pv (V.bin .gtr v14 (.int .i64 4000)) fun v => K v h) fun v15 h =>
    B.pick v11 (.bool true) v15 fun v16 =>
    B.al c1 (B.gd h v16 false (fun K => K .undef h) fun _ h =>
    B.gd h v16 false (fun K => B.pv (V.field1 2 c1) fun v => K v h) fun v19 h =>
    B.gd h v16 false (fun K => B.pv (V.bin .lss v19 (.int .i64 1)) fun v => K v h) fun v20 h =>
    B.pick v16 (.bool true) v20 fun v21 =>
    B.al c1 (B.gd h v21 false (fun K => K .undef h) fun _ h =>
    B.gd h v21 false (fun K => B.pv (V.field1 2 c1) fun v => K v h) fun v24 h =>
    B.gd h v21 false (fun K => B.call C (N 247) [v24] h K) fun v25 h =>
    B.gd h v21 false (fun K => B.pv (V.un .not v25) fun v => K v h) fun v26 h =>
    B.pick v21 (.bool true) v26 fun v27 =>
    Q v27 h)))))
/-- storeman/flow.together$1 -/
@[simp] def flow_together_1.cps (C : CSem) (N : Nat → Nat) (v0 : AVal) (h : AHeap) (Q : AVal → AHeap → Prop) : Prop :=
  flow_together_1.k1 C N Q v0 h
def flow_together_1.Imp (C : CSem) (N : Nat → Nat) : Prop := ∀ (v0 : AVal) (h : AHeap) (Q : AVal → AHeap → Prop), flow_together_1.cps C N v0 h (dn Q) → C (N 243) [v0] h Q
@[simp] def flow_days_1.k1 (C : CSem) (N : Nat → Nat) (Q : AVal → AHeap → Prop) (v0 v1 v2 : AVal) (h : AHeap) : Prop :=
  B.ld h v2 fun v6 =>
    B.pv (V.idxS 3 v6 v0) fun v8 =>
    B.pv (V.fieldAddr 1 v8) fun v9 =>
    B.ld h v9 fun v10 =>
    B.ld h v2 fun v11 =>
    B.pv (V.idxS 3 v11 v1) fun v13 =>
    B.pv (V.fieldAddr 1 v13) fun v14 =>
    B.ld h v14 fun v15 =>
    B.pv (V.bin .sub v10 v15) fun v16 =>
    Q v16 h
/-- storeman/flow.days$1 -/
@[simp] def flow_days_1.cps (C : CSem) (N : Nat → Nat) (v0 v1 v2 : AVal) (h : AHeap) (Q : AVal → AHeap → Prop) : Prop :=
  flow_days_1.k1 C N Q v0 v1 v2 h
def flow_days_1.Imp (C : CSem) (N : Nat → Nat) : Prop := ∀ (v0 v1 v2 : AVal) (h : AHeap) (Q : AVal → AHeap → Prop), flow_days_1.cps C N v0 v1 v2 h (dn Q) → C (N 245) [v0, v1, v2] h Q
end Go.Ab

/- What is told: residuals: what each function does in the abstract memory, printed by a program of mine. Definitions alone. -/
set_option linter.unusedVariables false
namespace Go.Ab
/-- storeman/storemankit.mark -/
@[simp] def kit_mark.cps (C : CSem) (N : Nat → Nat) (v0 v1 : AVal) (h : AHeap) (Q : AVal → AHeap → Prop) : Prop :=
  B.pv (V.bin .add v0 (.int .i64 7)) fun v6 =>
    B.pv (V.bin .mul (.int .i64 1000003) v6) fun v7 =>
    B.pv (V.bin .add v7 v1) fun v9 =>
    Q v9 h
def kit_mark.Imp (C : CSem) (N : Nat → Nat) : Prop := ∀ (v0 v1 : AVal) (h : AHeap) (Q : AVal → AHeap → Prop), kit_mark.cps C N v0 v1 h (dn Q) → C (N 20) [v0, v1] h Q
@[simp] def kit_LentLots.k3 (C : CSem) (N : Nat → Nat) (Q : AVal → AHeap → Prop) (v0 : AVal) (h : AHeap) : Prop :=
  B.pv (V.lenSl v0) fun v6 =>
    B.pv (V.bin .add v6 (.int .i64 12)) fun v7 =>
    0 < 6 ∧ B.mks h 56 (some [.int .i64 0, .str [], .int .i64 0, .int .i64 0, .int .i64 0, .bool false]) (.int .i64 0) v7 fun v8 h =>
    B.appW h 6 56 v8 v0 fun v11 h =>
    LoopR (lentG.l4 C 6 56 (N 77) [.int .i64 0, .str [], .int .i64 0, .int .i64 0, .int .i64 0, .bool false] 1 Q v0) [v11, (.int .i64 0)] h
/-- storeman/storemankit.LentLots -/
def kit_LentLots.cps (C : CSem) (N : Nat → Nat) (v0 : AVal) (h : AHeap) (Q : AVal → AHeap → Prop) : Prop :=
  kit_LentLots.k3 C N Q v0 h
def kit_LentLots.Imp (C : CSem) (N : Nat → Nat) : Prop := ∀ (v0 : AVal) (h : AHeap) (Q : AVal → AHeap → Prop), kit_LentLots.cps C N v0 h (dn Q) → C (N 48) [v0] h Q
@[simp] def kit_KeptLots.k3 (C : CSem) (N : Nat → Nat) (Q : AVal → AHeap → Prop) (v0 v1 : AVal) (h : AHeap) : Prop :=
  B.pv (V.lenSl v1) fun v14 =>
    B.pv (V.bin .add v14 (.int .i64 12)) fun v15 =>
    B.pv (V.cutSl 6 v0 none (some v15)) fun v16 =>
    LoopR (keptG.l4 C 6 (N 77) [.i .i64, .s, .i .i64, .i .i64, .i .i64, .b] 1 Q v1 v16) [(.int .i64 0)] h
@[simp] def kit_KeptLots.k4 (C : CSem) (N : Nat → Nat) (Q : AVal → AHeap → Prop) (v0 v1 : AVal) (h : AHeap) : Prop :=
  B.pv (V.lenSl v0) fun v8 =>
    B.pv (V.lenSl v1) fun v10 =>
    B.pv (V.bin .neq v8 v10) fun v11 =>
    B.cond v11
    (Q (.bool false) h)
    (kit_KeptLots.k3 C N Q v0 v1 h)
/-- storeman/storemankit.KeptLots -/
def kit_KeptLots.cps (C : CSem) (N : Nat → Nat) (v0 v1 : AVal) (h : AHeap) (Q : AVal → AHeap → Prop) : Prop :=
  kit_KeptLots.k4 C N Q v0 v1 h
def kit_KeptLots.Imp (C : CSem) (N : Nat → Nat) : Prop := ∀ (v0 v1 : AVal) (h : AHeap) (Q : AVal → AHeap → Prop), kit_KeptLots.cps C N v0 v1 h (dn Q) → C (N 54) [v0, v1] h Q
@[simp] def kit_SameLots.k3 (C : CSem) (N : Nat → Nat) (Q : AVal → AHeap → Prop) (v0 v1 : AVal) (h : AHeap) : Prop :=
  B.pv (V.lenSl v0) fun v7 =>
    B.pv (V.lenSl v1) fun v9 =>
    B.pv (V.bin .neq v7 v9) fun v10 =>
    B.cond v10
    (Q (.bool false) h)
    (LoopR (sameG.l4 6 [.i .i64, .s, .i .i64, .i .i64, .i .i64, .b] Q v0 v1) [(.int .i64 0)] h)
/-- storeman/storemankit.SameLots -/
def kit_SameLots.cps (C : CSem) (N : Nat → Nat) (v0 v1 : AVal) (h : AHeap) (Q : AVal → AHeap → Prop) : Prop :=
  kit_SameLots.k3 C N Q v0 v1 h
def kit_SameLots.Imp (C : CSem) (N : Nat → Nat) : Prop := ∀ (v0 v1 : AVal) (h : AHeap) (Q : AVal → AHeap → Prop), kit_SameLots.cps C N v0 v1 h (dn Q) → C (N 74) [v0, v1] h Q
@[simp] def kit_SameUses.k3 (C : CSem) (N : Nat → Nat) (Q : AVal → AHeap → Prop) (v0 v1 : AVal) (h : AHeap) : Prop :=
  B.pv (V.lenSl v0) fun v7 =>
    B.pv (V.lenSl v1) fun v9 =>
    B.pv (V.bin .neq v7 v9) fun v10 =>
    B.cond v10
    (Q (.bool false) h)
    (LoopR (sameG.l4 3 [.i .i64, .i .i64, .i .i64] Q v0 v1) [(.int .i64 0)] h)
/-- storeman/storemankit.SameUses -/
def kit_SameUses.cps (C : CSem) (N : Nat → Nat) (v0 v1 : AVal) (h : AHeap) (Q : AVal → AHeap → Prop) : Prop :=
  kit_SameUses.k3 C N Q v0 v1 h
def kit_SameUses.Imp (C : CSem) (N : Nat → Nat) : Prop := ∀ (v0 v1 : AVal) (h : AHeap) (Q : AVal → AHeap → Prop), kit_SameUses.cps C N v0 v1 h (dn Q) → C (N 75) [v0, v1] h Q
@[simp] def kit_markLot.k1 (C : CSem) (N : Nat → Nat) (Q : AVal → AHeap → Prop) (v0 v1 : AVal) (h : AHeap) : Prop :=
  B.call C (N 20) [v0, v1] h fun v7 h =>
    B.pv (A.bld [(0, none, v7)] [.int .i64 0, .str [], .int .i64 0, .int .i64 0, .int .i64 0, .bool false]) fun v8 =>
    B.pv (V.setN 0 6 v8 (.agg [.int .i64 0, .str [], .int .i64 0, .int .i64 0, .int .i64 0, .bool false])) fun c4 =>
    B.pv (oneOf (joinV (V.fieldN 0 6 c4) (some []))) fun v => Q v h
/-- storeman/storemankit.markLot -/
@[simp] def kit_markLot.cps (C : CSem) (N : Nat → Nat) (v0 v1 : AVal) (h : AHeap) (Q : AVal → AHeap → Prop) : Prop :=
  kit_markLot.k1 C N Q v0 v1 h
def kit_markLot.Imp (C : CSem) (N : Nat → Nat) : Prop := ∀ (v0 v1 : AVal) (h : AHeap) (Q : AVal → AHeap → Prop), kit_markLot.cps C N v0 v1 h (dn Q) → C (N 77) [v0, v1] h Q
@[simp] def kit_markWant.k1 (C : CSem) (N : Nat → Nat) (Q : AVal → AHeap → Prop) (v0 v1 : AVal) (h : AHeap) : Prop :=
  B.call C (N 20) [v0, v1] h fun v7 h =>
    B.pv (A.bld [(1, none, v7)] [.str [], .int .i64 0, .int .i64 0]) fun v8 =>
    B.pv (V.setN 0 3 v8 (.agg [.str [], .int .i64 0, .int .i64 0])) fun c4 =>
    B.pv (oneOf (joinV (V.fieldN 0 3 c4) (some []))) fun v => Q v h
/-- storeman/storemankit.markWant -/
@[simp] def kit_markWant.cps (C : CSem) (N : Nat → Nat) (v0 v1 : AVal) (h : AHeap) (Q : AVal → AHeap → Prop) : Prop :=
  kit_markWant.k1 C N Q v0 v1 h
def kit_markWant.Imp (C : CSem) (N : Nat → Nat) : Prop := ∀ (v0 v1 : AVal) (h : AHeap) (Q : AVal → AHeap → Prop), kit_markWant.cps C N v0 v1 h (dn Q) → C (N 107) [v0, v1] h Q
@[simp] def kit_LentWants.k3 (C : CSem) (N : Nat → Nat) (Q : AVal → AHeap → Prop) (v0 : AVal) (h : AHeap) : Prop :=
  B.pv (V.lenSl v0) fun v6 =>
    B.pv (V.bin .add v6 (.int .i64 12)) fun v7 =>
    0 < 3 ∧ B.mks h 32 (some [.str [], .int .i64 0, .int .i64 0]) (.int .i64 0) v7 fun v8 h =>
    B.appW h 3 32 v8 v0 fun v11 h =>
    LoopR (lentG.l4 C 3 32 (N 107) [.str [], .int .i64 0, .int .i64 0] 1 Q v0) [v11, (.int .i64 0)] h
/-- storeman/storemankit.LentWants -/
def kit_LentWants.cps (C : CSem) (N : Nat → Nat) (v0 : AVal) (h : AHeap) (Q : AVal → AHeap → Prop) : Prop :=
  kit_LentWants.k3 C N Q v0 h
def kit_LentWants.Imp (C : CSem) (N : Nat → Nat) : Prop := ∀ (v0 : AVal) (h : AHeap) (Q : AVal → AHeap → Prop), kit_LentWants.cps C N v0 h (dn Q) → C (N 218) [v0] h Q
@[simp] def kit_KeptWants.k3 (C : CSem) (N : Nat → Nat) (Q : AVal → AHeap → Prop) (v0 v1 : AVal) (h : AHeap) : Prop :=
  B.pv (V.lenSl v1) fun v14 =>
    B.pv (V.bin .add v14 (.int .i64 12)) fun v15 =>
    B.pv (V.cutSl 3 v0 none (some v15)) fun v16 =>
    LoopR (keptG.l4 C 3 (N 107) [.s, .i .i64, .i .i64] 1 Q v1 v16) [(.int .i64 0)] h
@[simp] def kit_KeptWants.k4 (C : CSem) (N : Nat → Nat) (Q : AVal → AHeap → Prop) (v0 v1 : AVal) (h : AHeap) : Prop :=
  B.pv (V.lenSl v0) fun v8 =>
    B.pv (V.lenSl v1) fun v10 =>
    B.pv (V.bin .neq v8 v10) fun v11 =>
    B.cond v11
    (Q (.bool false) h)
    (kit_KeptWants.k3 C N Q v0 v1 h)
/-- storeman/storemankit.KeptWants -/
def kit_KeptWants.cps (C : CSem) (N : Nat → Nat) (v0 v1 : AVal) (h : AHeap) (Q : AVal → AHeap → Prop) : Prop :=
  kit_KeptWants.k4 C N Q v0 v1 h
def kit_KeptWants.Imp (C : CSem) (N : Nat → Nat) : Prop := ∀ (v0 v1 : AVal) (h : AHeap) (Q : AVal → AHeap → Prop), kit_KeptWants.cps C N v0 v1 h (dn Q) → C (N 223) [v0, v1] h Q
end Go.Ab

/- What is told: residuals: what each function does in the abstract memory, printed by a program of mine. Definitions alone. -/
set_option linter.unusedVariables false
namespace Go.Ab
@[simp] def law05_awake.k1 (C : CSem) (N : Nat → Nat) (Q : AVal → AHeap → Prop) (h : AHeap) : Prop :=
  B.pv (A.bld [(0, none, (.int .i64 0)), (1, none, (.int .i64 5))] [.int .i64 0, .int .i64 0]) fun v4 =>
    B.pv (A.bld [(0, none, (.int .i64 1)), (1, none, (.str [65])), (2, some 2, v4), (4, none, (.int .i64 3))] [.int .i64 0, .str [], .int .i64 0, .int .i64 0, .int .i64 0, .bool false]) fun v5 =>
    B.pv (A.bld [(0, none, (.int .i64 0)), (1, none, (.int .i64 9))] [.int .i64 0, .int .i64 0]) fun v6 =>
    B.pv (A.bld [(0, none, (.int .i64 2)), (1, none, (.str [65])), (2, some 2, v6), (4, none, (.int .i64 4))] [.int .i64 0, .str [], .int .i64 0, .int .i64 0, .int .i64 0, .bool false]) fun v7 =>
    B.newO h (fillL [(0, some 6, v5), (6, some 6, v7)] (repL 2 [.int .i64 0, .str [], .int .i64 0, .int .i64 0, .int .i64 0, .bool false])) fun i8 h =>
    B.pv (A.bld [(0, none, (.str [65])), (1, none, (.int .i64 7)), (2, none, (.int .i64 2))] [.str [], .int .i64 0, .int .i64 0]) fun v11 =>
    B.pv (A.bld [(0, none, (.str [65])), (1, none, (.int .i64 2)), (2, none, (.int .i64 5))] [.str [], .int .i64 0, .int .i64 0]) fun v12 =>
    B.newO h (fillL [(0, some 3, v11), (3, some 3, v12)] (repL 2 [.str [], .int .i64 0, .int .i64 0])) fun i13 h =>
    B.call C (N 219) [(.sl i8 0 0 2 6 2), (.sl i13 0 0 2 3 2)] h fun v14 h =>
    B.pv (V.ext 0 v14) fun v15 =>
    B.pv (V.ext 1 v14) fun v16 =>
    B.gd h v16 true (fun K => K v15 h) fun v19 h =>
    B.gd h v16 true (fun K => B.pv (V.lenSl v19) fun v => K v h) fun v20 h =>
    B.gd h v16 true (fun K => B.pv (V.bin .eql v20 (.int .i64 3)) fun v => K v h) fun v21 h =>
    B.pick v16 v21 (.bool false) fun v22 =>
    B.gd h v22 true (fun K => K v15 h) fun v24 h =>
    B.gd h v22 true (fun K => B.pv (V.idxS 3 v24 (.int .i64 0)) fun v => K v h) fun v25 h =>
    B.gd h v22 true (fun K => B.ldn h v25 3 fun v => K v h) fun v26 h =>
    B.gd h v22 true (fun K => B.pv (A.bld [(0, none, (.int .i64 1)), (1, none, (.int .i64 1)), (2, none, (.int .i64 3))] [.int .i64 0, .int .i64 0, .int .i64 0]) fun v => K v h) fun v27 h =>
    B.gd h v22 true (fun K => B.pv (V.binAgg .eql [.i .i64, .i .i64, .i .i64] v26 v27) fun v => K v h) fun v28 h =>
    B.pick v22 v28 (.bool false) fun v29 =>
    B.gd h v29 true (fun K => K v15 h) fun v31 h =>
    B.gd h v29 true (fun K => B.pv (V.idxS 3 v31 (.int .i64 1)) fun v => K v h) fun v32 h =>
    B.gd h v29 true (fun K => B.ldn h v32 3 fun v => K v h) fun v33 h =>
    B.gd h v29 true (fun K => B.pv (A.bld [(0, none, (.int .i64 1)), (1, none, (.int .i64 2)), (2, none, (.int .i64 2))] [.int .i64 0, .int .i64 0, .int .i64 0]) fun v => K v h) fun v34 h =>
    B.gd h v29 true (fun K => B.pv (V.binAgg .eql [.i .i64, .i .i64, .i .i64] v33 v34) fun v => K v h) fun v35 h =>
    B.pick v29 v35 (.bool false) fun v36 =>
    B.gd h v36 true (fun K => K v15 h) fun v38 h =>
    B.gd h v36 true (fun K => B.pv (V.idxS 3 v38 (.int .i64 2)) fun v => K v h) fun v39 h =>
    B.gd h v36 true (fun K => B.ldn h v39 3 fun v => K v h) fun v40 h =>
    B.gd h v36 true (fun K => B.pv (A.bld [(0, none, (.int .i64 0)), (1, none, (.int .i64 2)), (2, none, (.int .i64 2))] [.int .i64 0, .int .i64 0, .int .i64 0]) fun v => K v h) fun v41 h =>
    B.gd h v36 true (fun K => B.pv (V.binAgg .eql [.i .i64, .i .i64, .i .i64] v40 v41) fun v => K v h) fun v42 h =>
    B.pick v36 v42 (.bool false) fun v43 =>
    B.gd h v43 true (fun K => K (.sl i8 0 0 2 6 2) h) fun v45 h =>
    B.gd h v43 true (fun K => B.pv (A.bld [(0, none, (.str [65])), (1, none, (.int .i64 4)), (2, none, (.int .i64 6))] [.str [], .int .i64 0, .int .i64 0]) fun v => K v h) fun v46 h =>
    B.gd h v43 true (fun K => B.pv (A.bld [(0, none, (.str [65])), (1, none, (.int .i64 8)), (2, none, (.int .i64 2))] [.str [], .int .i64 0, .int .i64 0]) fun v => K v h) fun v47 h =>
    B.gd h v43 true (fun K => B.newO h (fillL [(0, some 3, v46), (3, some 3, v47)] (repL 2 [.str [], .int .i64 0, .int .i64 0])) fun i h => K (.sl i 0 0 2 3 2) h) fun v48 h =>
    B.gd h v43 true (fun K => B.call C (N 215) [v45, v48] h K) fun v49 h =>
    B.gd h v43 true (fun K => B.pv (V.un .not v49) fun v => K v h) fun v50 h =>
    B.pick v43 v50 (.bool false) fun v51 =>
    Q v51 h
/-- storeman/storemanlaw05.awake -/
@[simp] def law05_awake.cps (C : CSem) (N : Nat → Nat) (h : AHeap) (Q : AVal → AHeap → Prop) : Prop :=
  law05_awake.k1 C N Q h
def law05_awake.Imp (C : CSem) (N : Nat → Nat) : Prop := ∀ (h : AHeap) (Q : AVal → AHeap → Prop), law05_awake.cps C N h (dn Q) → C (N 213) [] h Q
@[simp] def law05_small.k1 (C : CSem) (N : Nat → Nat) (Q : AVal → AHeap → Prop) (v0 v1 : AVal) (h : AHeap) : Prop :=
  B.pv (V.lenSl v0) fun v6 =>
    B.pv (V.bin .leq v6 (.int .i64 40)) fun v7 =>
    B.gd h v7 true (fun K => K v1 h) fun v9 h =>
    B.gd h v7 true (fun K => B.pv (V.lenSl v9) fun v => K v h) fun v10 h =>
    B.gd h v7 true (fun K => B.pv (V.bin .leq v10 (.int .i64 60)) fun v => K v h) fun v11 h =>
    B.pick v7 v11 (.bool false) fun v12 =>
    Q v12 h
/-- storeman/storemanlaw05.small -/
@[simp] def law05_small.cps (C : CSem) (N : Nat → Nat) (v0 v1 : AVal) (h : AHeap) (Q : AVal → AHeap → Prop) : Prop :=
  law05_small.k1 C N Q v0 v1 h
def law05_small.Imp (C : CSem) (N : Nat → Nat) : Prop := ∀ (v0 v1 : AVal) (h : AHeap) (Q : AVal → AHeap → Prop), law05_small.cps C N v0 v1 h (dn Q) → C (N 214) [v0, v1] h Q
@[simp] def law05_FlowAny.k1 (C : CSem) (N : Nat → Nat) (Q : AVal → AHeap → Prop) (v0 v1 : AVal) (h : AHeap) : Prop :=
  B.call C (N 213) [] h fun v5 h =>
    B.pv (V.un .not v5) fun v6 =>
    B.cond v6
    (Q (.bool false) h)
    (B.call C (N 214) [v0, v1] h fun v9 h =>
    B.pv (V.un .not v9) fun v10 =>
    B.cond v10
    (Q (.bool true) h)
    (B.call C (N 215) [v0, v1] h fun v13 h =>
    B.call C (N 216) [v0, v1] h fun v16 h =>
    B.pv (V.eqBool .eql v13 v16) fun v17 =>
    Q v17 h))
/-- storeman/storemanlaw05.FlowAny -/
@[simp] def law05_FlowAny.cps (C : CSem) (N : Nat → Nat) (v0 v1 : AVal) (h : AHeap) (Q : AVal → AHeap → Prop) : Prop :=
  law05_FlowAny.k1 C N Q v0 v1 h
def law05_FlowAny.Imp (C : CSem) (N : Nat → Nat) : Prop := ∀ (v0 v1 : AVal) (h : AHeap) (Q : AVal → AHeap → Prop), law05_FlowAny.cps C N v0 v1 h (dn Q) → C (N 217) [v0, v1] h Q
@[simp] def law05_FlowFills.k1 (C : CSem) (N : Nat → Nat) (Q : AVal → AHeap → Prop) (v0 v1 : AVal) (h : AHeap) : Prop :=
  B.call C (N 213) [] h fun v15 h =>
    B.pv (V.un .not v15) fun v16 =>
    B.cond v16
    (Q (.bool false) h)
    (B.call C (N 214) [v0, v1] h fun v19 h =>
    B.pv (V.un .not v19) fun v20 =>
    B.cond v20
    (Q (.bool true) h)
    (B.call C (N 48) [v0] h fun v22 h =>
    B.call C (N 218) [v1] h fun v24 h =>
    B.call C (N 219) [v22, v24] h fun v28 h =>
    B.pv (V.ext 0 v28) fun v29 =>
    B.pv (V.ext 1 v28) fun v30 =>
    B.call C (N 220) [v0, v1] h fun v34 h =>
    B.pv (V.ext 0 v34) fun v35 =>
    B.pv (V.ext 1 v34) fun v36 =>
    B.call C (N 221) [v22, v24] h fun v40 h =>
    B.pv (V.ext 0 v40) fun v41 =>
    B.pv (V.ext 1 v40) fun v42 =>
    B.call C (N 222) [v0, v1] h fun v46 h =>
    B.pv (V.ext 0 v46) fun v47 =>
    B.pv (V.ext 1 v46) fun v48 =>
    B.pv (V.eqBool .eql v30 v36) fun v51 =>
    B.gd h v51 true (fun K => K v29 h) fun v53 h =>
    B.gd h v51 true (fun K => K v35 h) fun v54 h =>
    B.gd h v51 true (fun K => B.call C (N 75) [v53, v54] h K) fun v55 h =>
    B.pick v51 v55 (.bool false) fun v56 =>
    B.gd h v56 true (fun K => K v22 h) fun v58 h =>
    B.gd h v56 true (fun K => K v24 h) fun v59 h =>
    B.gd h v56 true (fun K => B.call C (N 215) [v58, v59] h K) fun v60 h =>
    B.gd h v56 true (fun K => K v36 h) fun v61 h =>
    B.gd h v56 true (fun K => B.pv (V.eqBool .eql v60 v61) fun v => K v h) fun v62 h =>
    B.pick v56 v62 (.bool false) fun v63 =>
    B.gd h v63 true (fun K => K v42 h) fun v65 h =>
    B.gd h v63 true (fun K => K v48 h) fun v66 h =>
    B.gd h v63 true (fun K => B.pv (V.eqBool .eql v65 v66) fun v => K v h) fun v67 h =>
    B.pick v63 v67 (.bool false) fun v68 =>
    B.gd h v68 true (fun K => K v41 h) fun v70 h =>
    B.gd h v68 true (fun K => K v47 h) fun v71 h =>
    B.gd h v68 true (fun K => B.call C (N 74) [v70, v71] h K) fun v72 h =>
    B.pick v68 v72 (.bool false) fun v73 =>
    B.gd h v73 true (fun K => K v22 h) fun v75 h =>
    B.gd h v73 true (fun K => K v0 h) fun v76 h =>
    B.gd h v73 true (fun K => B.call C (N 54) [v75, v76] h K) fun v77 h =>
    B.pick v73 v77 (.bool false) fun v78 =>
    B.gd h v78 true (fun K => K v24 h) fun v80 h =>
    B.gd h v78 true (fun K => K v1 h) fun v81 h =>
    B.gd h v78 true (fun K => B.call C (N 223) [v80, v81] h K) fun v82 h =>
    B.pick v78 v82 (.bool false) fun v83 =>
    Q v83 h))
/-- storeman/storemanlaw05.FlowFills -/
@[simp] def law05_FlowFills.cps (C : CSem) (N : Nat → Nat) (v0 v1 : AVal) (h : AHeap) (Q : AVal → AHeap → Prop) : Prop :=
  law05_FlowFills.k1 C N Q v0 v1 h
def law05_FlowFills.Imp (C : CSem) (N : Nat → Nat) : Prop := ∀ (v0 v1 : AVal) (h : AHeap) (Q : AVal → AHeap → Prop), law05_FlowFills.cps C N v0 v1 h (dn Q) → C (N 224) [v0, v1] h Q
end Go.Ab

/- What is told: residuals: what each function does in the abstract memory, printed by a program of mine. Definitions alone. -/
set_option linter.unusedVariables false
namespace Go.Ab
@[simp] def lot_Right.k1 (C : CSem) (N : Nat → Nat) (Q : AVal → AHeap → Prop) (v0 : AVal) (h : AHeap) : Prop :=
  B.pv (A.boxN 6 v0) fun c1 =>
    B.al c1 (B.pv (V.field1 0 c1) fun v4 =>
    B.pv (V.bin .gtr v4 (.int .i64 0)) fun v5 =>
    B.al c1 (B.gd h v5 true (fun K => K .undef h) fun _ h =>
    B.gd h v5 true (fun K => B.pv (V.field1 1 c1) fun v => K v h) fun v8 h =>
    B.gd h v5 true (fun K => B.call C (N 53) [v8] h K) fun v9 h =>
    B.pick v5 v9 (.bool false) fun v10 =>
    B.al c1 (B.gd h v10 true (fun K => K .undef h) fun _ h =>
    B.gd h v10 true (fun K => B.pv (V.fieldN 2 2 c1) fun v => K v h) fun v13 h =>
    B.gd h v10 true (fun K => B.call C (N 5) [v13] h K) fun v14 h =>
    B.pick v10 v14 (.bool false) fun v15 =>
    B.al c1 (B.gd h v15 true (fun K => K .undef h) fun _ h =>
    B.al c1 (B.gd h v15 true (fun K => K .undef h) fun _ h =>
    B.gd h v15 true (fun K => B.pv (V.field1 2 c1) fun v => K v h) fun v19 h =>
    B.al c1 (B.gd h v15 true (fun K => K .undef h) fun _ h =>
    B.al c1 (B.gd h v15 true (fun K => K .undef h) fun _ h =>
    B.gd h v15 true (fun K => B.pv (V.field1 3 c1) fun v => K v h) fun v22 h =>
    B.gd h v15 true (fun K => B.pv (V.bin .lss v19 v22) fun v => K v h) fun v23 h =>
    B.pick v15 v23 (.bool false) fun v24 =>
    B.al c1 (B.gd h v24 true (fun K => K .undef h) fun _ h =>
    B.gd h v24 true (fun K => B.pv (V.field1 4 c1) fun v => K v h) fun v27 h =>
    B.gd h v24 true (fun K => B.pv (V.bin .gtr v27 (.int .i64 0)) fun v => K v h) fun v28 h =>
    B.pick v24 v28 (.bool false) fun v29 =>
    B.al c1 (B.gd h v29 true (fun K => K .undef h) fun _ h =>
    B.gd h v29 true (fun K => B.pv (V.field1 4 c1) fun v => K v h) fun v32 h =>
    B.gd h v29 true (fun K => B.pv (V.bin .leq v32 (.int .i64 1073741824)) fun v => K v h) fun v33 h =>
    B.pick v29 v33 (.bool false) fun v34 =>
    Q v34 h)))))))))
/-- storeman/lot.Right -/
@[simp] def lot_Right.cps (C : CSem) (N : Nat → Nat) (v0 : AVal) (h : AHeap) (Q : AVal → AHeap → Prop) : Prop :=
  lot_Right.k1 C N Q v0 h
def lot_Right.Imp (C : CSem) (N : Nat → Nat) : Prop := ∀ (v0 : AVal) (h : AHeap) (Q : AVal → AHeap → Prop), lot_Right.cps C N v0 h (dn Q) → C (N 52) [v0] h Q
@[simp] def lot_Compare.k1 (C : CSem) (N : Nat → Nat) (Q : AVal → AHeap → Prop) (v0 v1 : AVal) (h : AHeap) : Prop :=
  B.pv (A.boxN 6 v0) fun c2 =>
    B.pv (A.boxN 6 v1) fun c3 =>
    B.al c2 (B.al c2 (B.pv (V.field1 3 c2) fun v7 =>
    B.al c3 (B.al c3 (B.pv (V.field1 3 c3) fun v10 =>
    B.al c2 (B.pv (V.field1 0 c2) fun v13 =>
    B.al c3 (B.pv (V.field1 0 c3) fun v15 =>
    B.call C (N 157) [v7, v10] h fun v11 h =>
    B.call C (N 157) [v13, v15] h fun v16 h =>
    B.newO h (fillL [(0, none, v11), (1, none, v16)] (repL 2 [.int .i64 0])) fun i17 h =>
    B.call C (N 158) [(.sl i17 0 0 2 1 2)] h fun v18 h =>
    Q v18 h))))))
/-- storeman/lot.Compare -/
@[simp] def lot_Compare.cps (C : CSem) (N : Nat → Nat) (v0 v1 : AVal) (h : AHeap) (Q : AVal → AHeap → Prop) : Prop :=
  lot_Compare.k1 C N Q v0 v1 h
def lot_Compare.Imp (C : CSem) (N : Nat → Nat) : Prop := ∀ (v0 v1 : AVal) (h : AHeap) (Q : AVal → AHeap → Prop), lot_Compare.cps C N v0 v1 h (dn Q) → C (N 144) [v0, v1] h Q
/-- storeman/lot.Sort -/
@[simp] def lot_Sort.cps (C : CSem) (N : Nat → Nat) (v0 : AVal) (h : AHeap) (Q : AVal → AHeap → Prop) : Prop :=
  B.call C (N 160) [v0] h fun v5 h =>
    B.call C (N 161) [v5, (.fn (N 144) [] [])] h fun v7 h =>
    Q v5 h
def lot_Sort.Imp (C : CSem) (N : Nat → Nat) : Prop := ∀ (v0 : AVal) (h : AHeap) (Q : AVal → AHeap → Prop), lot_Sort.cps C N v0 h (dn Q) → C (N 149) [v0] h Q
end Go.Ab

/- What is told: residuals: what each function does in the abstract memory, printed by a program of mine. Definitions alone. -/
set_option linter.unusedVariables false
namespace Go.Ab
@[simp] def ref01_Right.k1 (C : CSem) (N : Nat → Nat) (Q : AVal → AHeap → Prop) (v0 : AVal) (h : AHeap) : Prop :=
  B.pv (A.boxN 2 v0) fun c1 =>
    B.al c1 (B.pv (V.field1 0 c1) fun v4 =>
    B.pv (V.bin .geq v4 (.int .i64 0)) fun v5 =>
    B.al c1 (B.gd h v5 true (fun K => K .undef h) fun _ h =>
    B.gd h v5 true (fun K => B.pv (V.field1 1 c1) fun v => K v h) fun v8 h =>
    B.al c1 (B.gd h v5 true (fun K => K .undef h) fun _ h =>
    B.gd h v5 true (fun K => B.pv (V.field1 0 c1) fun v => K v h) fun v10 h =>
    B.gd h v5 true (fun K => B.pv (V.bin .geq v8 v10) fun v => K v h) fun v11 h =>
    B.pick v5 v11 (.bool false) fun v12 =>
    B.al c1 (B.gd h v12 true (fun K => K .undef h) fun _ h =>
    B.gd h v12 true (fun K => B.pv (V.field1 1 c1) fun v => K v h) fun v15 h =>
    B.gd h v12 true (fun K => B.pv (V.bin .leq v15 (.int .i64 4001)) fun v => K v h) fun v16 h =>
    B.pick v12 v16 (.bool false) fun v17 =>
    Q v17 h))))
/-- storeman/storemanref01.Right -/
@[simp] def ref01_Right.cps (C : CSem) (N : Nat → Nat) (v0 : AVal) (h : AHeap) (Q : AVal → AHeap → Prop) : Prop :=
  ref01_Right.k1 C N Q v0 h
def ref01_Right.Imp (C : CSem) (N : Nat → Nat) : Prop := ∀ (v0 : AVal) (h : AHeap) (Q : AVal → AHeap → Prop), ref01_Right.cps C N v0 h (dn Q) → C (N 6) [v0] h Q
@[simp] def ref01_Has.k1 (C : CSem) (N : Nat → Nat) (Q : AVal → AHeap → Prop) (v0 v1 : AVal) (h : AHeap) : Prop :=
  B.pv (A.boxN 2 v0) fun c2 =>
    B.pv (V.fieldN 0 2 c2) fun v5 =>
    B.call C (N 6) [v5] h fun v6 h =>
    B.gd h v6 true (fun K => K v1 h) fun v8 h =>
    B.al c2 (B.gd h v6 true (fun K => K .undef h) fun _ h =>
    B.gd h v6 true (fun K => B.pv (V.field1 0 c2) fun v => K v h) fun v10 h =>
    B.gd h v6 true (fun K => B.pv (V.bin .geq v8 v10) fun v => K v h) fun v11 h =>
    B.pick v6 v11 (.bool false) fun v12 =>
    B.gd h v12 true (fun K => K v1 h) fun v14 h =>
    B.al c2 (B.gd h v12 true (fun K => K .undef h) fun _ h =>
    B.gd h v12 true (fun K => B.pv (V.field1 1 c2) fun v => K v h) fun v16 h =>
    B.gd h v12 true (fun K => B.pv (V.bin .lss v14 v16) fun v => K v h) fun v17 h =>
    B.pick v12 v17 (.bool false) fun v18 =>
    Q v18 h))
/-- storeman/storemanref01.Has -/
@[simp] def ref01_Has.cps (C : CSem) (N : Nat → Nat) (v0 v1 : AVal) (h : AHeap) (Q : AVal → AHeap → Prop) : Prop :=
  ref01_Has.k1 C N Q v0 v1 h
def ref01_Has.Imp (C : CSem) (N : Nat → Nat) : Prop := ∀ (v0 v1 : AVal) (h : AHeap) (Q : AVal → AHeap → Prop), ref01_Has.cps C N v0 v1 h (dn Q) → C (N 8) [v0, v1] h Q
end Go.Ab

/- What is told: residuals: what each function does in the abstract memory, printed by a program of mine. Definitions alone. -/
set_option linter.unusedVariables false
namespace Go.Ab
@[simp] def ref03_Right.k1 (C : CSem) (N : Nat → Nat) (Q : AVal → AHeap → Prop) (Y1 : List AVal → AHeap → Prop) (v0 v3 : AVal) (h : AHeap) : Prop :=
  B.pv (V.lenStr v0) fun v16 =>
    B.pv (V.bin .lss v3 v16) fun v17 =>
    B.cond v17
    (B.pv (V.idxStr v0 v3) fun v22 =>
    B.pv (V.bin .geq v22 (.int .u8 65)) fun v23 =>
    B.gd h v23 true (fun K => K v0 h) fun v25 h =>
    B.gd h v23 true (fun K => K v3 h) fun v26 h =>
    B.gd h v23 true (fun K => B.pv (V.idxStr v25 v26) fun v => K v h) fun v27 h =>
    B.gd h v23 true (fun K => B.pv (V.bin .leq v27 (.int .u8 90)) fun v => K v h) fun v28 h =>
    B.pick v23 v28 (.bool false) fun v29 =>
    B.pv (V.idxStr v0 v3) fun v32 =>
    B.pv (V.bin .geq v32 (.int .u8 48)) fun v33 =>
    B.gd h v33 true (fun K => K v0 h) fun v35 h =>
    B.gd h v33 true (fun K => K v3 h) fun v36 h =>
    B.gd h v33 true (fun K => B.pv (V.idxStr v35 v36) fun v => K v h) fun v37 h =>
    B.gd h v33 true (fun K => B.pv (V.bin .leq v37 (.int .u8 57)) fun v => K v h) fun v38 h =>
    B.pick v33 v38 (.bool false) fun v39 =>
    B.gd h v39 false (fun K => K v0 h) fun v41 h =>
    B.gd h v39 false (fun K => K v3 h) fun v42 h =>
    B.gd h v39 false (fun K => B.pv (V.idxStr v41 v42) fun v => K v h) fun v43 h =>
    B.gd h v39 false (fun K => B.pv (V.bin .eql v43 (.int .u8 45)) fun v => K v h) fun v44 h =>
    B.pick v39 (.bool true) v44 fun v45 =>
    B.pv (V.un .not v29) fun v47 =>
    B.gd h v47 true (fun K => K v3 h) fun v49 h =>
    B.gd h v47 true (fun K => B.pv (V.bin .eql v49 (.int .i64 0)) fun v => K v h) fun v50 h =>
    B.gd h v47 true (fun K => K v50 h) fun v51 h =>
    B.gd h v51 false (fun K => K v45 h) fun v52 h =>
    B.gd h v51 false (fun K => B.pv (V.un .not v52) fun v => K v h) fun v53 h =>
    B.gd h v47 true (fun K => B.pick v51 (.bool true) v53 fun v => K v h) fun v54 h =>
    B.pick v47 v54 (.bool false) fun v55 =>
    B.cond v55
    (Q (.bool false) h)
    (B.pv (V.bin .add v3 (.int .i64 1)) fun v19 =>
    Y1 [v19] h))
    (Q (.bool true) h)
@[simp] def ref03_Right.l2 (C : CSem) (N : Nat → Nat) (Q : AVal → AHeap → Prop) (v0 : AVal) : List AVal → AHeap → (List AVal → AHeap → Prop) → Prop
  | [v3], h, Y1 => ref03_Right.k1 C N Q Y1 v0 v3 h
  | _, _, _ => False
@[simp] def ref03_Right.k3 (C : CSem) (N : Nat → Nat) (Q : AVal → AHeap → Prop) (v0 : AVal) (h : AHeap) : Prop :=
  B.pv (V.lenStr v0) fun v7 =>
    B.pv (V.bin .lss v7 (.int .i64 1)) fun v8 =>
    B.gd h v8 false (fun K => K v0 h) fun v10 h =>
    B.gd h v8 false (fun K => B.pv (V.lenStr v10) fun v => K v h) fun v11 h =>
    B.gd h v8 false (fun K => B.pv (V.bin .gtr v11 (.int .i64 12)) fun v => K v h) fun v12 h =>
    B.pick v8 (.bool true) v12 fun v13 =>
    B.cond v13
    (Q (.bool false) h)
    (LoopR (ref03_Right.l2 C N Q v0) [(.int .i64 0)] h)
/-- storeman/storemanref03.Right -/
@[simp] def ref03_Right.cps (C : CSem) (N : Nat → Nat) (v0 : AVal) (h : AHeap) (Q : AVal → AHeap → Prop) : Prop :=
  ref03_Right.k3 C N Q v0 h
def ref03_Right.Imp (C : CSem) (N : Nat → Nat) : Prop := ∀ (v0 : AVal) (h : AHeap) (Q : AVal → AHeap → Prop), ref03_Right.cps C N v0 h (dn Q) → C (N 61) [v0] h Q
end Go.Ab

/- What is told: residuals: what each function does in the abstract memory, printed by a program of mine. Definitions alone. -/
set_option linter.unusedVariables false
namespace Go.Ab
@[simp] def ref04_Right.k1 (C : CSem) (N : Nat → Nat) (Q : AVal → AHeap → Prop) (v0 : AVal) (h : AHeap) : Prop :=
  B.pv (A.boxN 6 v0) fun c1 =>
    B.al c1 (B.pv (V.field1 0 c1) fun v4 =>
    B.pv (V.bin .geq v4 (.int .i64 1)) fun v5 =>
    B.al c1 (B.gd h v5 true (fun K => K .undef h) fun _ h =>
    B.gd h v5 true (fun K => B.pv (V.field1 1 c1) fun v => K v h) fun v8 h =>
    B.gd h v5 true (fun K => B.call C (N 61) [v8] h K) fun v9 h =>
    B.pick v5 v9 (.bool false) fun v10 =>
    B.al c1 (B.gd h v10 true (fun K => K .undef h) fun _ h =>
    B.al c1 (B.gd h v10 true (fun K => K .undef h) fun _ h =>
    B.gd h v10 true (fun K => B.pv (V.field1 2 c1) fun v => K v h) fun v14 h =>
    B.gd h v10 true (fun K => B.pv (V.bin .geq v14 (.int .i64 0)) fun v => K v h) fun v15 h =>
    B.pick v10 v15 (.bool false) fun v16 =>
    B.al c1 (B.gd h v16 true (fun K => K .undef h) fun _ h =>
    B.al c1 (B.gd h v16 true (fun K => K .undef h) fun _ h =>
    B.gd h v16 true (fun K => B.pv (V.field1 2 c1) fun v => K v h) fun v20 h =>
    B.al c1 (B.gd h v16 true (fun K => K .undef h) fun _ h =>
    B.al c1 (B.gd h v16 true (fun K => K .undef h) fun _ h =>
    B.gd h v16 true (fun K => B.pv (V.field1 3 c1) fun v => K v h) fun v23 h =>
    B.gd h v16 true (fun K => B.pv (V.bin .lss v20 v23) fun v => K v h) fun v24 h =>
    B.pick v16 v24 (.bool false) fun v25 =>
    B.al c1 (B.gd h v25 true (fun K => K .undef h) fun _ h =>
    B.al c1 (B.gd h v25 true (fun K => K .undef h) fun _ h =>
    B.gd h v25 true (fun K => B.pv (V.field1 3 c1) fun v => K v h) fun v29 h =>
    B.gd h v25 true (fun K => B.pv (V.bin .leq v29 (.int .i64 4001)) fun v => K v h) fun v30 h =>
    B.pick v25 v30 (.bool false) fun v31 =>
    B.al c1 (B.gd h v31 true (fun K => K .undef h) fun _ h =>
    B.gd h v31 true (fun K => B.pv (V.field1 4 c1) fun v => K v h) fun v34 h =>
    B.gd h v31 true (fun K => B.pv (V.bin .geq v34 (.int .i64 1)) fun v => K v h) fun v35 h =>
    B.pick v31 v35 (.bool false) fun v36 =>
    B.al c1 (B.gd h v36 true (fun K => K .undef h) fun _ h =>
    B.gd h v36 true (fun K => B.pv (V.field1 4 c1) fun v => K v h) fun v39 h =>
    B.gd h v36 true (fun K => B.pv (V.bin .leq v39 (.int .i64 1073741824)) fun v => K v h) fun v40 h =>
    B.pick v36 v40 (.bool false) fun v41 =>
    Q v41 h))))))))))))
/-- storeman/storemanref04.Right -/
@[simp] def ref04_Right.cps (C : CSem) (N : Nat → Nat) (v0 : AVal) (h : AHeap) (Q : AVal → AHeap → Prop) : Prop :=
  ref04_Right.k1 C N Q v0 h
def ref04_Right.Imp (C : CSem) (N : Nat → Nat) : Prop := ∀ (v0 : AVal) (h : AHeap) (Q : AVal → AHeap → Prop), ref04_Right.cps C N v0 h (dn Q) → C (N 60) [v0] h Q
@[simp] def ref04_Compare.k1 (C : CSem) (N : Nat → Nat) (Q : AVal → AHeap → Prop) (v0 v1 : AVal) (h : AHeap) : Prop :=
  B.pv (A.boxN 6 v0) fun c2 =>
    B.pv (A.boxN 6 v1) fun c3 =>
    B.al c2 (B.al c2 (B.pv (V.field1 3 c2) fun v8 =>
    B.al c3 (B.al c3 (B.pv (V.field1 3 c3) fun v11 =>
    B.pv (V.bin .lss v8 v11) fun v12 =>
    B.cond v12
    (Q (.int .i64 (-1)) h)
    (B.al c2 (B.al c2 (B.pv (V.field1 3 c2) fun v16 =>
    B.al c3 (B.al c3 (B.pv (V.field1 3 c3) fun v19 =>
    B.pv (V.bin .gtr v16 v19) fun v20 =>
    B.cond v20
    (Q (.int .i64 1) h)
    (B.al c2 (B.pv (V.field1 0 c2) fun v23 =>
    B.al c3 (B.pv (V.field1 0 c3) fun v25 =>
    B.pv (V.bin .lss v23 v25) fun v26 =>
    B.cond v26
    (Q (.int .i64 (-1)) h)
    (B.al c2 (B.pv (V.field1 0 c2) fun v29 =>
    B.al c3 (B.pv (V.field1 0 c3) fun v31 =>
    B.pv (V.bin .gtr v29 v31) fun v32 =>
    B.cond v32
    (Q (.int .i64 1) h)
    (Q (.int .i64 0) h))))))))))))))))
/-- storeman/storemanref04.Compare -/
@[simp] def ref04_Compare.cps (C : CSem) (N : Nat → Nat) (v0 v1 : AVal) (h : AHeap) (Q : AVal → AHeap → Prop) : Prop :=
  ref04_Compare.k1 C N Q v0 v1 h
def ref04_Compare.Imp (C : CSem) (N : Nat → Nat) : Prop := ∀ (v0 v1 : AVal) (h : AHeap) (Q : AVal → AHeap → Prop), ref04_Compare.cps C N v0 v1 h (dn Q) → C (N 145) [v0, v1] h Q
end Go.Ab

/- What is told: residuals: what each function does in the abstract memory, printed by a program of mine. Definitions alone. -/
set_option linter.unusedVariables false
namespace Go.Ab
@[simp] def ref05_Any.k1 (C : CSem) (N : Nat → Nat) (Q : AVal → AHeap → Prop) (Y1 : List AVal → AHeap → Prop) (Y2 : List AVal → AHeap → Prop) (v0 v1 v5 v7 v9 v10 : AVal) (h : AHeap) : Prop :=
  B.pv (V.bin .gtr v10 (.int .i64 0)) fun v60 =>
    B.cond v60
    (B.call C (N 233) [v0, v1, v7, v5, v9, v10] h fun v67 h =>
    B.pv (V.bin .eql v67 (.int .i64 0)) fun v69 =>
    B.cond v69
    (Q (.bool false) h)
    (B.pv (V.bin .sub v10 v67) fun v72 =>
    Y2 [v72] h))
    (B.pv (V.bin .add v9 (.int .i64 1)) fun v53 =>
    Y1 [v53] h)
@[simp] def ref05_Any.l2 (C : CSem) (N : Nat → Nat) (Q : AVal → AHeap → Prop) (Y1 : List AVal → AHeap → Prop) (v0 v1 v5 v7 v9 : AVal) : List AVal → AHeap → (List AVal → AHeap → Prop) → Prop
  | [v10], h, Y2 => ref05_Any.k1 C N Q Y1 Y2 v0 v1 v5 v7 v9 v10 h
  | _, _, _ => False
@[simp] def ref05_Any.k3 (C : CSem) (N : Nat → Nat) (Q : AVal → AHeap → Prop) (Y1 : List AVal → AHeap → Prop) (v0 v1 v5 v7 v9 : AVal) (h : AHeap) : Prop :=
  B.pv (V.lenSl v1) fun v50 =>
    B.pv (V.bin .lss v9 v50) fun v51 =>
    B.cond v51
    (B.pv (V.idxS 3 v1 v9) fun v56 =>
    B.pv (V.fieldAddr 2 v56) fun v57 =>
    B.ld h v57 fun v58 =>
    LoopR (ref05_Any.l2 C N Q Y1 v0 v1 v5 v7 v9) [v58] h)
    (Q (.bool true) h)
@[simp] def ref05_Any.l4 (C : CSem) (N : Nat → Nat) (Q : AVal → AHeap → Prop) (v0 v1 v5 v7 : AVal) : List AVal → AHeap → (List AVal → AHeap → Prop) → Prop
  | [v9], h, Y1 => ref05_Any.k3 C N Q Y1 v0 v1 v5 v7 v9 h
  | _, _, _ => False
@[simp] def ref05_Any.k5 (C : CSem) (N : Nat → Nat) (Q : AVal → AHeap → Prop) (Y3 : List AVal → AHeap → Prop) (v0 v1 v5 v7 v8 : AVal) (h : AHeap) : Prop :=
  B.pv (V.lenSl v1) fun v38 =>
    B.pv (V.bin .lss v8 v38) fun v39 =>
    B.cond v39
    (B.pv (V.lenSl v0) fun v45 =>
    0 < 1 ∧ B.mks h 8 (some [.int .i64 0]) v45 v45 fun v46 h =>
    B.pv (V.idxS 1 v7 v8) fun v47 =>
    B.st h v47 v46 fun h =>
    B.pv (V.bin .add v8 (.int .i64 1)) fun v41 =>
    Y3 [v41] h)
    (LoopR (ref05_Any.l4 C N Q v0 v1 v5 v7) [(.int .i64 0)] h)
@[simp] def ref05_Any.l6 (C : CSem) (N : Nat → Nat) (Q : AVal → AHeap → Prop) (v0 v1 v5 v7 : AVal) : List AVal → AHeap → (List AVal → AHeap → Prop) → Prop
  | [v8], h, Y3 => ref05_Any.k5 C N Q Y3 v0 v1 v5 v7 v8 h
  | _, _, _ => False
@[simp] def ref05_Any.k7 (C : CSem) (N : Nat → Nat) (Q : AVal → AHeap → Prop) (Y4 : List AVal → AHeap → Prop) (v0 v1 v5 v6 : AVal) (h : AHeap) : Prop :=
  B.pv (V.lenSl v0) fun v21 =>
    B.pv (V.bin .lss v6 v21) fun v22 =>
    B.cond v22
    (B.pv (V.idxS 6 v0 v6) fun v29 =>
    B.pv (V.fieldAddr 4 v29) fun v30 =>
    B.ld h v30 fun v31 =>
    B.pv (V.idxS 1 v5 v6) fun v32 =>
    B.st h v32 v31 fun h =>
    B.pv (V.bin .add v6 (.int .i64 1)) fun v24 =>
    Y4 [v24] h)
    (B.pv (V.lenSl v1) fun v34 =>
    0 < 1 ∧ B.mks h 24 (some [.nils]) v34 v34 fun v35 h =>
    LoopR (ref05_Any.l6 C N Q v0 v1 v5 v35) [(.int .i64 0)] h)
@[simp] def ref05_Any.l8 (C : CSem) (N : Nat → Nat) (Q : AVal → AHeap → Prop) (v0 v1 v5 : AVal) : List AVal → AHeap → (List AVal → AHeap → Prop) → Prop
  | [v6], h, Y4 => ref05_Any.k7 C N Q Y4 v0 v1 v5 v6 h
  | _, _, _ => False
@[simp] def ref05_Any.k9 (C : CSem) (N : Nat → Nat) (Q : AVal → AHeap → Prop) (v0 v1 : AVal) (h : AHeap) : Prop :=
  B.call C (N 234) [v0, v1] h fun v14 h =>
    B.pv (V.un .not v14) fun v15 =>
    B.cond v15
    (Q (.bool false) h)
    (B.pv (V.lenSl v0) fun v17 =>
    0 < 1 ∧ B.mks h 8 (some [.int .i64 0]) v17 v17 fun v18 h =>
    LoopR (ref05_Any.l8 C N Q v0 v1 v18) [(.int .i64 0)] h)
/-- storeman/storemanref05.Any -/
@[simp] def ref05_Any.cps (C : CSem) (N : Nat → Nat) (v0 v1 : AVal) (h : AHeap) (Q : AVal → AHeap → Prop) : Prop :=
  ref05_Any.k9 C N Q v0 v1 h
def ref05_Any.Imp (C : CSem) (N : Nat → Nat) : Prop := ∀ (v0 v1 : AVal) (h : AHeap) (Q : AVal → AHeap → Prop), ref05_Any.cps C N v0 v1 h (dn Q) → C (N 216) [v0, v1] h Q
@[simp] def ref05_Fill.k1 (C : CSem) (N : Nat → Nat) (Q : AVal → AHeap → Prop) (Y1 : List AVal → AHeap → Prop) (Y2 : List AVal → AHeap → Prop) (v0 v1 v6 v8 v9 v10 v11 v13 v14 : AVal) (h : AHeap) : Prop :=
  B.pv (V.bin .lss v14 (.int .i64 0)) fun v126 =>
    B.cond v126
    (Q (.tup [.nils, (.bool false)]) h)
    (B.pv (V.idxS 1 v6 v14) fun v130 =>
    B.ld h v130 fun v131 =>
    B.pv (V.min2 v13 v131) fun v132 =>
    B.pv (V.idxS 1 v6 v14) fun v137 =>
    B.ld h v137 fun v138 =>
    B.pv (V.bin .sub v138 v132) fun v140 =>
    B.pv (V.idxS 1 v6 v14) fun v141 =>
    B.st h v141 v140 fun h =>
    B.pv (V.bin .sub v13 v132) fun v144 =>
    B.pv (V.idxS 6 v0 v14) fun v149 =>
    B.pv (V.fieldAddr 0 v149) fun v150 =>
    B.ld h v150 fun v151 =>
    B.pv (A.bld [(0, none, v11), (1, none, v151), (2, none, v132)] [.int .i64 0, .int .i64 0, .int .i64 0]) fun v153 =>
    B.newO h (fillL [(0, some 3, v153)] (repL 1 [.int .i64 0, .int .i64 0, .int .i64 0])) fun i154 h =>
    B.appW h 3 24 v9 (.sl i154 0 0 1 3 1) fun v155 h =>
    Y2 [v155, v144] h)
@[simp] def ref05_Fill.k2 (C : CSem) (N : Nat → Nat) (Q : AVal → AHeap → Prop) (Y1 : List AVal → AHeap → Prop) (Y2 : List AVal → AHeap → Prop) (Y3 : List AVal → AHeap → Prop) (v0 v1 v6 v8 v9 v10 v11 v13 v14 v15 : AVal) (h : AHeap) : Prop :=
  B.pv (V.lenSl v0) fun v88 =>
    B.pv (V.bin .lss v15 v88) fun v89 =>
    B.cond v89
    (B.pv (V.idxS 1 v6 v15) fun v94 =>
    B.ld h v94 fun v95 =>
    B.pv (V.bin .gtr v95 (.int .i64 0)) fun v96 =>
    B.gd h v96 true (fun K => K v0 h) fun v98 h =>
    B.gd h v96 true (fun K => K v15 h) fun v99 h =>
    B.gd h v96 true (fun K => B.pv (V.idxS 6 v98 v99) fun v => K v h) fun v100 h =>
    B.gd h v96 true (fun K => B.ldn h v100 6 fun v => K v h) fun v101 h =>
    B.gd h v96 true (fun K => K v1 h) fun v102 h =>
    B.gd h v96 true (fun K => K v11 h) fun v103 h =>
    B.gd h v96 true (fun K => B.pv (V.idxS 3 v102 v103) fun v => K v h) fun v104 h =>
    B.gd h v96 true (fun K => B.ldn h v104 3 fun v => K v h) fun v105 h =>
    B.gd h v96 true (fun K => B.call C (N 235) [v101, v105] h K) fun v106 h =>
    B.pick v96 v106 (.bool false) fun v107 =>
    B.gd h v107 true (fun K => K v14 h) fun v109 h =>
    B.gd h v107 true (fun K => B.pv (V.bin .lss v109 (.int .i64 0)) fun v => K v h) fun v110 h =>
    B.gd h v107 true (fun K => K v110 h) fun v111 h =>
    B.gd h v111 false (fun K => K v0 h) fun v112 h =>
    B.gd h v111 false (fun K => K v15 h) fun v113 h =>
    B.gd h v111 false (fun K => B.pv (V.idxS 6 v112 v113) fun v => K v h) fun v114 h =>
    B.gd h v111 false (fun K => B.ldn h v114 6 fun v => K v h) fun v115 h =>
    B.gd h v111 false (fun K => K v0 h) fun v116 h =>
    B.gd h v111 false (fun K => K v14 h) fun v117 h =>
    B.gd h v111 false (fun K => B.pv (V.idxS 6 v116 v117) fun v => K v h) fun v118 h =>
    B.gd h v111 false (fun K => B.ldn h v118 6 fun v => K v h) fun v119 h =>
    B.gd h v111 false (fun K => B.call C (N 145) [v115, v119] h K) fun v120 h =>
    B.gd h v111 false (fun K => B.pv (V.bin .lss v120 (.int .i64 0)) fun v => K v h) fun v121 h =>
    B.gd h v107 true (fun K => B.pick v111 (.bool true) v121 fun v => K v h) fun v122 h =>
    B.pick v107 v122 (.bool false) fun v123 =>
    B.cond v123
    (B.pv (V.bin .add v15 (.int .i64 1)) fun v91 =>
    Y3 [v15, v91] h)
    (B.pv (V.bin .add v15 (.int .i64 1)) fun v91 =>
    Y3 [v14, v91] h))
    (ref05_Fill.k1 C N Q Y1 Y2 v0 v1 v6 v8 v9 v10 v11 v13 v14 h)
@[simp] def ref05_Fill.l3 (C : CSem) (N : Nat → Nat) (Q : AVal → AHeap → Prop) (Y1 : List AVal → AHeap → Prop) (Y2 : List AVal → AHeap → Prop) (v0 v1 v6 v8 v9 v10 v11 v13 : AVal) : List AVal → AHeap → (List AVal → AHeap → Prop) → Prop
  | [v14, v15], h, Y3 => ref05_Fill.k2 C N Q Y1 Y2 Y3 v0 v1 v6 v8 v9 v10 v11 v13 v14 v15 h
  | _, _, _ => False
@[simp] def ref05_Fill.k4 (C : CSem) (N : Nat → Nat) (Q : AVal → AHeap → Prop) (Y1 : List AVal → AHeap → Prop) (Y2 : List AVal → AHeap → Prop) (v0 v1 v6 v8 v9 v10 v11 v13 : AVal) (h : AHeap) : Prop :=
  B.pv (V.bin .gtr v13 (.int .i64 0)) fun v85 =>
    B.cond v85
    (LoopR (ref05_Fill.l3 C N Q Y1 Y2 v0 v1 v6 v8 v9 v10 v11 v13) [(.int .i64 (-1)), (.int .i64 0)] h)
    (B.pv (V.bin .add v10 (.int .i64 1)) fun v46 =>
    Y1 [v9, v46] h)
@[simp] def ref05_Fill.l5 (C : CSem) (N : Nat → Nat) (Q : AVal → AHeap → Prop) (Y1 : List AVal → AHeap → Prop) (v0 v1 v6 v8 v10 v11 : AVal) : List AVal → AHeap → (List AVal → AHeap → Prop) → Prop
  | [v9, v13], h, Y2 => ref05_Fill.k4 C N Q Y1 Y2 v0 v1 v6 v8 v9 v10 v11 v13 h
  | _, _, _ => False
@[simp] def ref05_Fill.k6 (C : CSem) (N : Nat → Nat) (Q : AVal → AHeap → Prop) (Y1 : List AVal → AHeap → Prop) (v0 v1 v6 v8 v9 v10 v11 : AVal) (h : AHeap) : Prop :=
  B.pv (V.idxS 3 v1 v11) fun v81 =>
    B.pv (V.fieldAddr 2 v81) fun v82 =>
    B.ld h v82 fun v83 =>
    LoopR (ref05_Fill.l5 C N Q Y1 v0 v1 v6 v8 v10 v11) [v9, v83] h
@[simp] def ref05_Fill.k7 (C : CSem) (N : Nat → Nat) (Q : AVal → AHeap → Prop) (Y1 : List AVal → AHeap → Prop) (Y4 : List AVal → AHeap → Prop) (v0 v1 v6 v8 v9 v10 v11 v12 : AVal) (h : AHeap) : Prop :=
  B.pv (V.lenSl v1) fun v49 =>
    B.pv (V.bin .lss v12 v49) fun v50 =>
    B.cond v50
    (B.pv (V.idxS 1 v8 v12) fun v55 =>
    B.ld h v55 fun v56 =>
    B.pv (V.un .not v56) fun v57 =>
    B.gd h v57 true (fun K => K v11 h) fun v59 h =>
    B.gd h v57 true (fun K => B.pv (V.bin .lss v59 (.int .i64 0)) fun v => K v h) fun v60 h =>
    B.gd h v57 true (fun K => K v60 h) fun v61 h =>
    B.gd h v61 false (fun K => K v1 h) fun v62 h =>
    B.gd h v61 false (fun K => K v12 h) fun v63 h =>
    B.gd h v61 false (fun K => B.pv (V.idxS 3 v62 v63) fun v => K v h) fun v64 h =>
    B.gd h v61 false (fun K => B.pv (V.fieldAddr 1 v64) fun v => K v h) fun v65 h =>
    B.gd h v61 false (fun K => B.ld h v65 fun v => K v h) fun v66 h =>
    B.gd h v61 false (fun K => K v1 h) fun v67 h =>
    B.gd h v61 false (fun K => K v11 h) fun v68 h =>
    B.gd h v61 false (fun K => B.pv (V.idxS 3 v67 v68) fun v => K v h) fun v69 h =>
    B.gd h v61 false (fun K => B.pv (V.fieldAddr 1 v69) fun v => K v h) fun v70 h =>
    B.gd h v61 false (fun K => B.ld h v70 fun v => K v h) fun v71 h =>
    B.gd h v61 false (fun K => B.pv (V.bin .lss v66 v71) fun v => K v h) fun v72 h =>
    B.gd h v57 true (fun K => B.pick v61 (.bool true) v72 fun v => K v h) fun v73 h =>
    B.pick v57 v73 (.bool false) fun v74 =>
    B.cond v74
    (B.pv (V.bin .add v12 (.int .i64 1)) fun v52 =>
    Y4 [v12, v52] h)
    (B.pv (V.bin .add v12 (.int .i64 1)) fun v52 =>
    Y4 [v11, v52] h))
    (B.pv (V.idxS 1 v8 v11) fun v78 =>
    B.st h v78 (.bool true) fun h =>
    ref05_Fill.k6 C N Q Y1 v0 v1 v6 v8 v9 v10 v11 h)
@[simp] def ref05_Fill.l8 (C : CSem) (N : Nat → Nat) (Q : AVal → AHeap → Prop) (Y1 : List AVal → AHeap → Prop) (v0 v1 v6 v8 v9 v10 : AVal) : List AVal → AHeap → (List AVal → AHeap → Prop) → Prop
  | [v11, v12], h, Y4 => ref05_Fill.k7 C N Q Y1 Y4 v0 v1 v6 v8 v9 v10 v11 v12 h
  | _, _, _ => False
@[simp] def ref05_Fill.k9 (C : CSem) (N : Nat → Nat) (Q : AVal → AHeap → Prop) (Y1 : List AVal → AHeap → Prop) (v0 v1 v6 v8 v9 v10 : AVal) (h : AHeap) : Prop :=
  B.pv (V.lenSl v1) fun v43 =>
    B.pv (V.bin .lss v10 v43) fun v44 =>
    B.cond v44
    (LoopR (ref05_Fill.l8 C N Q Y1 v0 v1 v6 v8 v9 v10) [(.int .i64 (-1)), (.int .i64 0)] h)
    (Q (.tup [v9, (.bool true)]) h)
@[simp] def ref05_Fill.l10 (C : CSem) (N : Nat → Nat) (Q : AVal → AHeap → Prop) (v0 v1 v6 v8 : AVal) : List AVal → AHeap → (List AVal → AHeap → Prop) → Prop
  | [v9, v10], h, Y1 => ref05_Fill.k9 C N Q Y1 v0 v1 v6 v8 v9 v10 h
  | _, _, _ => False
@[simp] def ref05_Fill.k11 (C : CSem) (N : Nat → Nat) (Q : AVal → AHeap → Prop) (v0 v1 v6 : AVal) (h : AHeap) : Prop :=
  B.pv (V.lenSl v1) fun v39 =>
    0 < 1 ∧ B.mks h 1 (some [.bool false]) v39 v39 fun v40 h =>
    LoopR (ref05_Fill.l10 C N Q v0 v1 v6 v40) [.nils, (.int .i64 0)] h
@[simp] def ref05_Fill.k12 (C : CSem) (N : Nat → Nat) (Q : AVal → AHeap → Prop) (Y5 : List AVal → AHeap → Prop) (v0 v1 v6 v7 : AVal) (h : AHeap) : Prop :=
  B.pv (V.lenSl v0) fun v26 =>
    B.pv (V.bin .lss v7 v26) fun v27 =>
    B.cond v27
    (B.pv (V.idxS 6 v0 v7) fun v34 =>
    B.pv (V.fieldAddr 4 v34) fun v35 =>
    B.ld h v35 fun v36 =>
    B.pv (V.idxS 1 v6 v7) fun v37 =>
    B.st h v37 v36 fun h =>
    B.pv (V.bin .add v7 (.int .i64 1)) fun v29 =>
    Y5 [v29] h)
    (ref05_Fill.k11 C N Q v0 v1 v6 h)
@[simp] def ref05_Fill.l13 (C : CSem) (N : Nat → Nat) (Q : AVal → AHeap → Prop) (v0 v1 v6 : AVal) : List AVal → AHeap → (List AVal → AHeap → Prop) → Prop
  | [v7], h, Y5 => ref05_Fill.k12 C N Q Y5 v0 v1 v6 v7 h
  | _, _, _ => False
@[simp] def ref05_Fill.k14 (C : CSem) (N : Nat → Nat) (Q : AVal → AHeap → Prop) (v0 v1 : AVal) (h : AHeap) : Prop :=
  B.call C (N 234) [v0, v1] h fun v19 h =>
    B.pv (V.un .not v19) fun v20 =>
    B.cond v20
    (Q (.tup [.nils, (.bool false)]) h)
    (B.pv (V.lenSl v0) fun v22 =>
    0 < 1 ∧ B.mks h 8 (some [.int .i64 0]) v22 v22 fun v23 h =>
    LoopR (ref05_Fill.l13 C N Q v0 v1 v23) [(.int .i64 0)] h)
/-- storeman/storemanref05.Fill -/
@[simp] def ref05_Fill.cps (C : CSem) (N : Nat → Nat) (v0 v1 : AVal) (h : AHeap) (Q : AVal → AHeap → Prop) : Prop :=
  ref05_Fill.k14 C N Q v0 v1 h
def ref05_Fill.Imp (C : CSem) (N : Nat → Nat) : Prop := ∀ (v0 v1 : AVal) (h : AHeap) (Q : AVal → AHeap → Prop), ref05_Fill.cps C N v0 v1 h (dn Q) → C (N 220) [v0, v1] h Q
@[simp] def ref05_Left.k1 (C : CSem) (N : Nat → Nat) (Q : AVal → AHeap → Prop) (Y1 : List AVal → AHeap → Prop) (v0 v6 v8 v9 c10 : AVal) (h : AHeap) : Prop :=
  B.al c10 (B.pv (V.field1 4 c10) fun v54 =>
    B.pv (V.bin .gtr v54 (.int .i64 0)) fun v55 =>
    B.cond v55
    (B.pv (V.fieldN 0 6 c10) fun v57 =>
    B.newO h (fillL [(0, some 6, v57)] (repL 1 [.int .i64 0, .str [], .int .i64 0, .int .i64 0, .int .i64 0, .bool false])) fun i58 h =>
    B.appW h 6 56 v8 (.sl i58 0 0 1 6 1) fun v59 h =>
    B.pv (V.bin .add v9 (.int .i64 1)) fun v25 =>
    Y1 [v59, v25] h)
    (B.pv (V.bin .add v9 (.int .i64 1)) fun v25 =>
    Y1 [v8, v25] h))
@[simp] def ref05_Left.k2 (C : CSem) (N : Nat → Nat) (Q : AVal → AHeap → Prop) (Y1 : List AVal → AHeap → Prop) (Y2 : List AVal → AHeap → Prop) (v0 v6 v8 v9 v11 c10 : AVal) (h : AHeap) : Prop :=
  B.pv (V.lenSl v6) fun v32 =>
    B.pv (V.bin .lss v11 v32) fun v33 =>
    B.cond v33
    (B.pv (V.idxS 3 v6 v11) fun v38 =>
    B.pv (V.fieldAddr 1 v38) fun v39 =>
    B.ld h v39 fun v40 =>
    B.al c10 (B.pv (V.field1 0 c10) fun v42 =>
    B.pv (V.bin .eql v40 v42) fun v43 =>
    B.cond v43
    (B.al c10 (B.pv (V.field1 4 c10) fun v45 =>
    B.pv (V.idxS 3 v6 v11) fun v48 =>
    B.pv (V.fieldAddr 2 v48) fun v49 =>
    B.ld h v49 fun v50 =>
    B.pv (V.bin .sub v45 v50) fun v51 =>
    B.al c10 (B.pv (V.setF 4 v51 c10) fun c10 =>
    B.pv (V.bin .add v11 (.int .i64 1)) fun v35 =>
    Y2 [v35, c10] h)))
    (B.pv (V.bin .add v11 (.int .i64 1)) fun v35 =>
    Y2 [v35, c10] h)))
    (ref05_Left.k1 C N Q Y1 v0 v6 v8 v9 c10 h)
@[simp] def ref05_Left.l3 (C : CSem) (N : Nat → Nat) (Q : AVal → AHeap → Prop) (Y1 : List AVal → AHeap → Prop) (v0 v6 v8 v9 : AVal) : List AVal → AHeap → (List AVal → AHeap → Prop) → Prop
  | [v11, c10], h, Y2 => ref05_Left.k2 C N Q Y1 Y2 v0 v6 v8 v9 v11 c10 h
  | _, _, _ => False
@[simp] def ref05_Left.k4 (C : CSem) (N : Nat → Nat) (Q : AVal → AHeap → Prop) (Y1 : List AVal → AHeap → Prop) (v0 v6 v8 v9 : AVal) (h : AHeap) : Prop :=
  B.pv (V.idxS 6 v0 v9) fun v28 =>
    B.ldn h v28 6 fun v29 =>
    B.pv (V.setN 0 6 v29 (.agg [.int .i64 0, .str [], .int .i64 0, .int .i64 0, .int .i64 0, .bool false])) fun c10 =>
    LoopR (ref05_Left.l3 C N Q Y1 v0 v6 v8 v9) [(.int .i64 0), c10] h
@[simp] def ref05_Left.k5 (C : CSem) (N : Nat → Nat) (Q : AVal → AHeap → Prop) (Y1 : List AVal → AHeap → Prop) (v0 v6 v8 v9 : AVal) (h : AHeap) : Prop :=
  B.pv (V.lenSl v0) fun v22 =>
    B.pv (V.bin .lss v9 v22) fun v23 =>
    B.cond v23
    (ref05_Left.k4 C N Q Y1 v0 v6 v8 v9 h)
    (Q (.tup [v8, (.bool true)]) h)
@[simp] def ref05_Left.l6 (C : CSem) (N : Nat → Nat) (Q : AVal → AHeap → Prop) (v0 v6 : AVal) : List AVal → AHeap → (List AVal → AHeap → Prop) → Prop
  | [v8, v9], h, Y1 => ref05_Left.k5 C N Q Y1 v0 v6 v8 v9 h
  | _, _, _ => False
@[simp] def ref05_Left.k7 (C : CSem) (N : Nat → Nat) (Q : AVal → AHeap → Prop) (v0 v1 : AVal) (h : AHeap) : Prop :=
  B.call C (N 220) [v0, v1] h fun v15 h =>
    B.pv (V.ext 0 v15) fun v16 =>
    B.pv (V.ext 1 v15) fun v17 =>
    B.pv (V.un .not v17) fun v19 =>
    B.cond v19
    (Q (.tup [.nils, (.bool false)]) h)
    (LoopR (ref05_Left.l6 C N Q v0 v16) [.nils, (.int .i64 0)] h)
/-- storeman/storemanref05.Left -/
@[simp] def ref05_Left.cps (C : CSem) (N : Nat → Nat) (v0 v1 : AVal) (h : AHeap) (Q : AVal → AHeap → Prop) : Prop :=
  ref05_Left.k7 C N Q v0 v1 h
def ref05_Left.Imp (C : CSem) (N : Nat → Nat) : Prop := ∀ (v0 v1 : AVal) (h : AHeap) (Q : AVal → AHeap → Prop), ref05_Left.cps C N v0 v1 h (dn Q) → C (N 222) [v0, v1] h Q
@[simp] def ref05_way.k1 (C : CSem) (N : Nat → Nat) (Q : AVal → AHeap → Prop) (Y1 : List AVal → AHeap → Prop) (Y2 : List AVal → AHeap → Prop) (Y3 : List AVal → AHeap → Prop) (v0 v1 v2 v3 v5 v13 v14 v17 v18 v19 v20 v21 : AVal) (h : AHeap) : Prop :=
  B.pv (V.lenSl v1) fun v102 =>
    B.pv (V.bin .lss v21 v102) fun v103 =>
    B.cond v103
    (B.pv (V.idxS 1 v14 v21) fun v108 =>
    B.ld h v108 fun v109 =>
    B.pv (V.bin .eql v109 (.int .i64 (-2))) fun v110 =>
    B.gd h v110 true (fun K => K v2 h) fun v112 h =>
    B.gd h v110 true (fun K => K v21 h) fun v113 h =>
    B.gd h v110 true (fun K => B.pv (V.idxS 1 v112 v113) fun v => K v h) fun v114 h =>
    B.gd h v110 true (fun K => B.ld h v114 fun v => K v h) fun v115 h =>
    B.gd h v110 true (fun K => K v20 h) fun v116 h =>
    B.gd h v110 true (fun K => B.pv (V.idxS 1 v115 v116) fun v => K v h) fun v117 h =>
    B.gd h v110 true (fun K => B.ld h v117 fun v => K v h) fun v118 h =>
    B.gd h v110 true (fun K => B.pv (V.bin .gtr v118 (.int .i64 0)) fun v => K v h) fun v119 h =>
    B.pick v110 v119 (.bool false) fun v120 =>
    B.cond v120
    (B.pv (V.idxS 1 v14 v21) fun v124 =>
    B.st h v124 v20 fun h =>
    B.newO h (fillL [(0, none, v21)] (repL 1 [.int .i64 0])) fun i127 h =>
    B.appW h 1 8 v17 (.sl i127 0 0 1 1 1) fun v128 h =>
    B.pv (V.bin .add v21 (.int .i64 1)) fun v105 =>
    Y3 [v128, v105] h)
    (B.pv (V.bin .add v21 (.int .i64 1)) fun v105 =>
    Y3 [v17, v105] h))
    (B.pv (V.bin .add v20 (.int .i64 1)) fun v66 =>
    Y2 [v17, v66] h)
@[simp] def ref05_way.l2 (C : CSem) (N : Nat → Nat) (Q : AVal → AHeap → Prop) (Y1 : List AVal → AHeap → Prop) (Y2 : List AVal → AHeap → Prop) (v0 v1 v2 v3 v5 v13 v14 v18 v19 v20 : AVal) : List AVal → AHeap → (List AVal → AHeap → Prop) → Prop
  | [v17, v21], h, Y3 => ref05_way.k1 C N Q Y1 Y2 Y3 v0 v1 v2 v3 v5 v13 v14 v17 v18 v19 v20 v21 h
  | _, _, _ => False
@[simp] def ref05_way.k3 (C : CSem) (N : Nat → Nat) (Q : AVal → AHeap → Prop) (Y1 : List AVal → AHeap → Prop) (Y2 : List AVal → AHeap → Prop) (v0 v1 v2 v3 v5 v13 v14 v17 v18 v19 v20 : AVal) (h : AHeap) : Prop :=
  B.pv (V.idxS 1 v3 v20) fun v90 =>
    B.ld h v90 fun v91 =>
    B.pv (V.bin .gtr v91 (.int .i64 0)) fun v92 =>
    B.cond v92
    (B.call C (N 242) [v2, v3, v13, v14, v20, v5] h fun v99 h =>
    Q v99 h)
    (LoopR (ref05_way.l2 C N Q Y1 Y2 v0 v1 v2 v3 v5 v13 v14 v18 v19 v20) [v17, (.int .i64 0)] h)
@[simp] def ref05_way.k4 (C : CSem) (N : Nat → Nat) (Q : AVal → AHeap → Prop) (Y1 : List AVal → AHeap → Prop) (Y2 : List AVal → AHeap → Prop) (v0 v1 v2 v3 v5 v13 v14 v17 v18 v19 v20 : AVal) (h : AHeap) : Prop :=
  B.pv (V.idxS 1 v13 v20) fun v69 =>
    B.ld h v69 fun v70 =>
    B.pv (V.bin .geq v70 (.int .i64 0)) fun v71 =>
    B.gd h v71 false (fun K => K v0 h) fun v73 h =>
    B.gd h v71 false (fun K => K v20 h) fun v74 h =>
    B.gd h v71 false (fun K => B.pv (V.idxS 6 v73 v74) fun v => K v h) fun v75 h =>
    B.gd h v71 false (fun K => B.ldn h v75 6 fun v => K v h) fun v76 h =>
    B.gd h v71 false (fun K => K v1 h) fun v77 h =>
    B.gd h v71 false (fun K => K v19 h) fun v78 h =>
    B.gd h v71 false (fun K => B.pv (V.idxS 3 v77 v78) fun v => K v h) fun v79 h =>
    B.gd h v71 false (fun K => B.ldn h v79 3 fun v => K v h) fun v80 h =>
    B.gd h v71 false (fun K => B.call C (N 235) [v76, v80] h K) fun v81 h =>
    B.gd h v71 false (fun K => B.pv (V.un .not v81) fun v => K v h) fun v82 h =>
    B.pick v71 (.bool true) v82 fun v83 =>
    B.cond v83
    (B.pv (V.bin .add v20 (.int .i64 1)) fun v66 =>
    Y2 [v17, v66] h)
    (B.pv (V.idxS 1 v13 v20) fun v87 =>
    B.st h v87 v19 fun h =>
    ref05_way.k3 C N Q Y1 Y2 v0 v1 v2 v3 v5 v13 v14 v17 v18 v19 v20 h)
@[simp] def ref05_way.k5 (C : CSem) (N : Nat → Nat) (Q : AVal → AHeap → Prop) (Y1 : List AVal → AHeap → Prop) (Y2 : List AVal → AHeap → Prop) (v0 v1 v2 v3 v5 v13 v14 v17 v18 v19 v20 : AVal) (h : AHeap) : Prop :=
  B.pv (V.lenSl v0) fun v63 =>
    B.pv (V.bin .lss v20 v63) fun v64 =>
    B.cond v64
    (ref05_way.k4 C N Q Y1 Y2 v0 v1 v2 v3 v5 v13 v14 v17 v18 v19 v20 h)
    (B.pv (V.bin .add v18 (.int .i64 1)) fun v56 =>
    Y1 [v17, v56] h)
@[simp] def ref05_way.l6 (C : CSem) (N : Nat → Nat) (Q : AVal → AHeap → Prop) (Y1 : List AVal → AHeap → Prop) (v0 v1 v2 v3 v5 v13 v14 v18 v19 : AVal) : List AVal → AHeap → (List AVal → AHeap → Prop) → Prop
  | [v17, v20], h, Y2 => ref05_way.k5 C N Q Y1 Y2 v0 v1 v2 v3 v5 v13 v14 v17 v18 v19 v20 h
  | _, _, _ => False
@[simp] def ref05_way.k7 (C : CSem) (N : Nat → Nat) (Q : AVal → AHeap → Prop) (Y1 : List AVal → AHeap → Prop) (v0 v1 v2 v3 v5 v13 v14 v17 v18 : AVal) (h : AHeap) : Prop :=
  B.pv (V.lenSl v17) fun v53 =>
    B.pv (V.bin .lss v18 v53) fun v54 =>
    B.cond v54
    (B.pv (V.idxS 1 v17 v18) fun v59 =>
    B.ld h v59 fun v60 =>
    LoopR (ref05_way.l6 C N Q Y1 v0 v1 v2 v3 v5 v13 v14 v18 v60) [v17, (.int .i64 0)] h)
    (Q (.int .i64 0) h)
@[simp] def ref05_way.l8 (C : CSem) (N : Nat → Nat) (Q : AVal → AHeap → Prop) (v0 v1 v2 v3 v5 v13 v14 : AVal) : List AVal → AHeap → (List AVal → AHeap → Prop) → Prop
  | [v17, v18], h, Y1 => ref05_way.k7 C N Q Y1 v0 v1 v2 v3 v5 v13 v14 v17 v18 h
  | _, _, _ => False
@[simp] def ref05_way.k9 (C : CSem) (N : Nat → Nat) (Q : AVal → AHeap → Prop) (v0 v1 v2 v3 v4 v5 v13 v14 : AVal) (h : AHeap) : Prop :=
  B.newO h (fillL [(0, none, v4)] (repL 1 [.int .i64 0])) fun i50 h =>
    LoopR (ref05_way.l8 C N Q v0 v1 v2 v3 v5 v13 v14) [(.sl i50 0 0 1 1 1), (.int .i64 0)] h
@[simp] def ref05_way.k10 (C : CSem) (N : Nat → Nat) (Q : AVal → AHeap → Prop) (Y4 : List AVal → AHeap → Prop) (v0 v1 v2 v3 v4 v5 v13 v14 v16 : AVal) (h : AHeap) : Prop :=
  B.pv (V.lenSl v14) fun v39 =>
    B.pv (V.bin .lss v16 v39) fun v40 =>
    B.cond v40
    (B.pv (V.idxS 1 v14 v16) fun v45 =>
    B.st h v45 (.int .i64 (-2)) fun h =>
    B.pv (V.bin .add v16 (.int .i64 1)) fun v42 =>
    Y4 [v42] h)
    (B.pv (V.idxS 1 v14 v4) fun v48 =>
    B.st h v48 (.int .i64 (-1)) fun h =>
    ref05_way.k9 C N Q v0 v1 v2 v3 v4 v5 v13 v14 h)
@[simp] def ref05_way.l11 (C : CSem) (N : Nat → Nat) (Q : AVal → AHeap → Prop) (v0 v1 v2 v3 v4 v5 v13 v14 : AVal) : List AVal → AHeap → (List AVal → AHeap → Prop) → Prop
  | [v16], h, Y4 => ref05_way.k10 C N Q Y4 v0 v1 v2 v3 v4 v5 v13 v14 v16 h
  | _, _, _ => False
@[simp] def ref05_way.k12 (C : CSem) (N : Nat → Nat) (Q : AVal → AHeap → Prop) (Y5 : List AVal → AHeap → Prop) (v0 v1 v2 v3 v4 v5 v13 v14 v15 : AVal) (h : AHeap) : Prop :=
  B.pv (V.lenSl v13) fun v30 =>
    B.pv (V.bin .lss v15 v30) fun v31 =>
    B.cond v31
    (B.pv (V.idxS 1 v13 v15) fun v36 =>
    B.st h v36 (.int .i64 (-1)) fun h =>
    B.pv (V.bin .add v15 (.int .i64 1)) fun v33 =>
    Y5 [v33] h)
    (LoopR (ref05_way.l11 C N Q v0 v1 v2 v3 v4 v5 v13 v14) [(.int .i64 0)] h)
@[simp] def ref05_way.l13 (C : CSem) (N : Nat → Nat) (Q : AVal → AHeap → Prop) (v0 v1 v2 v3 v4 v5 v13 v14 : AVal) : List AVal → AHeap → (List AVal → AHeap → Prop) → Prop
  | [v15], h, Y5 => ref05_way.k12 C N Q Y5 v0 v1 v2 v3 v4 v5 v13 v14 v15 h
  | _, _, _ => False
@[simp] def ref05_way.k14 (C : CSem) (N : Nat → Nat) (Q : AVal → AHeap → Prop) (v0 v1 v2 v3 v4 v5 v13 : AVal) (h : AHeap) : Prop :=
  B.pv (V.lenSl v1) fun v26 =>
    0 < 1 ∧ B.mks h 8 (some [.int .i64 0]) v26 v26 fun v27 h =>
    LoopR (ref05_way.l13 C N Q v0 v1 v2 v3 v4 v5 v13 v27) [(.int .i64 0)] h
/-- storeman/storemanref05.way -/
@[simp] def ref05_way.cps (C : CSem) (N : Nat → Nat) (v0 v1 v2 v3 v4 v5 : AVal) (h : AHeap) (Q : AVal → AHeap → Prop) : Prop :=
  B.pv (V.lenSl v0) fun v23 =>
    0 < 1 ∧ B.mks h 8 (some [.int .i64 0]) v23 v23 fun v24 h =>
    ref05_way.k14 C N Q v0 v1 v2 v3 v4 v5 v24 h
def ref05_way.Imp (C : CSem) (N : Nat → Nat) : Prop := ∀ (v0 v1 v2 v3 v4 v5 : AVal) (h : AHeap) (Q : AVal → AHeap → Prop), ref05_way.cps C N v0 v1 v2 v3 v4 v5 h (dn Q) → C (N 233) [v0, v1, v2, v3, v4, v5] h Q
@[simp] def ref05_May.k1 (C : CSem) (N : Nat → Nat) (Q : AVal → AHeap → Prop) (Y1 : List AVal → AHeap → Prop) (v1 v7 : AVal) (h : AHeap) : Prop :=
  B.pv (V.lenSl v1) fun v46 =>
    B.pv (V.bin .lss v7 v46) fun v47 =>
    B.cond v47
    (B.pv (V.idxS 3 v1 v7) fun v52 =>
    B.ldn h v52 3 fun v53 =>
    B.call C (N 241) [v53] h fun v54 h =>
    B.pv (V.un .not v54) fun v55 =>
    B.cond v55
    (Q (.bool false) h)
    (B.pv (V.bin .add v7 (.int .i64 1)) fun v49 =>
    Y1 [v49] h))
    (Q (.bool true) h)
@[simp] def ref05_May.l2 (C : CSem) (N : Nat → Nat) (Q : AVal → AHeap → Prop) (v1 : AVal) : List AVal → AHeap → (List AVal → AHeap → Prop) → Prop
  | [v7], h, Y1 => ref05_May.k1 C N Q Y1 v1 v7 h
  | _, _, _ => False
@[simp] def ref05_May.k3 (C : CSem) (N : Nat → Nat) (Q : AVal → AHeap → Prop) (Y2 : List AVal → AHeap → Prop) (Y3 : List AVal → AHeap → Prop) (v0 v1 v5 v6 : AVal) (h : AHeap) : Prop :=
  B.pv (V.bin .lss v6 v5) fun v30 =>
    B.cond v30
    (B.pv (V.idxS 6 v0 v6) fun v35 =>
    B.pv (V.fieldAddr 0 v35) fun v36 =>
    B.ld h v36 fun v37 =>
    B.pv (V.idxS 6 v0 v5) fun v40 =>
    B.pv (V.fieldAddr 0 v40) fun v41 =>
    B.ld h v41 fun v42 =>
    B.pv (V.bin .eql v37 v42) fun v43 =>
    B.cond v43
    (Q (.bool false) h)
    (B.pv (V.bin .add v6 (.int .i64 1)) fun v32 =>
    Y3 [v32] h))
    (B.pv (V.bin .add v5 (.int .i64 1)) fun v21 =>
    Y2 [v21] h)
@[simp] def ref05_May.l4 (C : CSem) (N : Nat → Nat) (Q : AVal → AHeap → Prop) (Y2 : List AVal → AHeap → Prop) (v0 v1 v5 : AVal) : List AVal → AHeap → (List AVal → AHeap → Prop) → Prop
  | [v6], h, Y3 => ref05_May.k3 C N Q Y2 Y3 v0 v1 v5 v6 h
  | _, _, _ => False
@[simp] def ref05_May.k5 (C : CSem) (N : Nat → Nat) (Q : AVal → AHeap → Prop) (Y2 : List AVal → AHeap → Prop) (v0 v1 v5 : AVal) (h : AHeap) : Prop :=
  B.pv (V.idxS 6 v0 v5) fun v24 =>
    B.ldn h v24 6 fun v25 =>
    B.call C (N 60) [v25] h fun v26 h =>
    B.pv (V.un .not v26) fun v27 =>
    B.cond v27
    (Q (.bool false) h)
    (LoopR (ref05_May.l4 C N Q Y2 v0 v1 v5) [(.int .i64 0)] h)
@[simp] def ref05_May.k6 (C : CSem) (N : Nat → Nat) (Q : AVal → AHeap → Prop) (Y2 : List AVal → AHeap → Prop) (v0 v1 v5 : AVal) (h : AHeap) : Prop :=
  B.pv (V.lenSl v0) fun v18 =>
    B.pv (V.bin .lss v5 v18) fun v19 =>
    B.cond v19
    (ref05_May.k5 C N Q Y2 v0 v1 v5 h)
    (LoopR (ref05_May.l2 C N Q v1) [(.int .i64 0)] h)
@[simp] def ref05_May.l7 (C : CSem) (N : Nat → Nat) (Q : AVal → AHeap → Prop) (v0 v1 : AVal) : List AVal → AHeap → (List AVal → AHeap → Prop) → Prop
  | [v5], h, Y2 => ref05_May.k6 C N Q Y2 v0 v1 v5 h
  | _, _, _ => False
@[simp] def ref05_May.k8 (C : CSem) (N : Nat → Nat) (Q : AVal → AHeap → Prop) (v0 v1 : AVal) (h : AHeap) : Prop :=
  B.pv (V.lenSl v0) fun v9 =>
    B.pv (V.bin .gtr v9 (.int .i64 300)) fun v10 =>
    B.gd h v10 false (fun K => K v1 h) fun v12 h =>
    B.gd h v10 false (fun K => B.pv (V.lenSl v12) fun v => K v h) fun v13 h =>
    B.gd h v10 false (fun K => B.pv (V.bin .gtr v13 (.int .i64 20000)) fun v => K v h) fun v14 h =>
    B.pick v10 (.bool true) v14 fun v15 =>
    B.cond v15
    (Q (.bool false) h)
    (LoopR (ref05_May.l7 C N Q v0 v1) [(.int .i64 0)] h)
/-- storeman/storemanref05.May -/
@[simp] def ref05_May.cps (C : CSem) (N : Nat → Nat) (v0 v1 : AVal) (h : AHeap) (Q : AVal → AHeap → Prop) : Prop :=
  ref05_May.k8 C N Q v0 v1 h
def ref05_May.Imp (C : CSem) (N : Nat → Nat) : Prop := ∀ (v0 v1 : AVal) (h : AHeap) (Q : AVal → AHeap → Prop), ref05_May.cps C N v0 v1 h (dn Q) → C (N 234) [v0, v1] h Q
@[simp] def ref05_Serves.k1 (C : CSem) (N : Nat → Nat) (Q : AVal → AHeap → Prop) (v0 v1 : AVal) (h : AHeap) : Prop :=
  B.pv (A.boxN 6 v0) fun c2 =>
    B.pv (A.boxN 3 v1) fun c3 =>
    B.al c2 (B.pv (V.field1 1 c2) fun v6 =>
    B.al c3 (B.pv (V.field1 0 c3) fun v8 =>
    B.pv (V.bin .eql v6 v8) fun v9 =>
    B.al c2 (B.gd h v9 true (fun K => K .undef h) fun _ h =>
    B.gd h v9 true (fun K => B.pv (V.fieldN 2 2 c2) fun v => K v h) fun v12 h =>
    B.al c3 (B.gd h v9 true (fun K => K .undef h) fun _ h =>
    B.gd h v9 true (fun K => B.pv (V.field1 1 c3) fun v => K v h) fun v14 h =>
    B.gd h v9 true (fun K => B.call C (N 8) [v12, v14] h K) fun v15 h =>
    B.pick v9 v15 (.bool false) fun v16 =>
    Q v16 h))))
/-- storeman/storemanref05.Serves -/
@[simp] def ref05_Serves.cps (C : CSem) (N : Nat → Nat) (v0 v1 : AVal) (h : AHeap) (Q : AVal → AHeap → Prop) : Prop :=
  ref05_Serves.k1 C N Q v0 v1 h
def ref05_Serves.Imp (C : CSem) (N : Nat → Nat) : Prop := ∀ (v0 v1 : AVal) (h : AHeap) (Q : AVal → AHeap → Prop), ref05_Serves.cps C N v0 v1 h (dn Q) → C (N 235) [v0, v1] h Q
@[simp] def ref05_Right.k1 (C : CSem) (N : Nat → Nat) (Q : AVal → AHeap → Prop) (v0 : AVal) (h : AHeap) : Prop :=
  B.pv (A.boxN 3 v0) fun c1 =>
    B.al c1 (B.pv (V.field1 0 c1) fun v4 =>
    B.call C (N 61) [v4] h fun v5 h =>
    B.al c1 (B.gd h v5 true (fun K => K .undef h) fun _ h =>
    B.gd h v5 true (fun K => B.pv (V.field1 1 c1) fun v => K v h) fun v8 h =>
    B.gd h v5 true (fun K => B.pv (V.bin .geq v8 (.int .i64 0)) fun v => K v h) fun v9 h =>
    B.pick v5 v9 (.bool false) fun v10 =>
    B.al c1 (B.gd h v10 true (fun K => K .undef h) fun _ h =>
    B.gd h v10 true (fun K => B.pv (V.field1 1 c1) fun v => K v h) fun v13 h =>
    B.gd h v10 true (fun K => B.pv (V.bin .leq v13 (.int .i64 4000)) fun v => K v h) fun v14 h =>
    B.pick v10 v14 (.bool false) fun v15 =>
    B.al c1 (B.gd h v15 true (fun K => K .undef h) fun _ h =>
    B.gd h v15 true (fun K => B.pv (V.field1 2 c1) fun v => K v h) fun v18 h =>
    B.gd h v15 true (fun K => B.pv (V.bin .geq v18 (.int .i64 1)) fun v => K v h) fun v19 h =>
    B.pick v15 v19 (.bool false) fun v20 =>
    B.al c1 (B.gd h v20 true (fun K => K .undef h) fun _ h =>
    B.gd h v20 true (fun K => B.pv (V.field1 2 c1) fun v => K v h) fun v23 h =>
    B.gd h v20 true (fun K => B.pv (V.bin .leq v23 (.int .i64 1125899906842624)) fun v => K v h) fun v24 h =>
    B.pick v20 v24 (.bool false) fun v25 =>
    Q v25 h)))))
/-- storeman/storemanref05.Right -/
@[simp] def ref05_Right.cps (C : CSem) (N : Nat → Nat) (v0 : AVal) (h : AHeap) (Q : AVal → AHeap → Prop) : Prop :=
  ref05_Right.k1 C N Q v0 h
def ref05_Right.Imp (C : CSem) (N : Nat → Nat) : Prop := ∀ (v0 : AVal) (h : AHeap) (Q : AVal → AHeap → Prop), ref05_Right.cps C N v0 h (dn Q) → C (N 241) [v0] h Q
@[simp] def ref05_along.k1 (C : CSem) (N : Nat → Nat) (Q : AVal → AHeap → Prop) (Y1 : List AVal → AHeap → Prop) (v0 v2 v3 v13 v14 : AVal) (h : AHeap) : Prop :=
  B.pv (V.idxS 1 v2 v14) fun v61 =>
    B.ld h v61 fun v62 =>
    B.pv (V.idxS 1 v0 v62) fun v65 =>
    B.ld h v65 fun v66 =>
    B.pv (V.idxS 1 v0 v62) fun v70 =>
    B.ld h v70 fun v71 =>
    B.pv (V.idxS 1 v71 v14) fun v73 =>
    B.ld h v73 fun v74 =>
    B.pv (V.bin .add v74 v13) fun v76 =>
    B.pv (V.idxS 1 v66 v14) fun v77 =>
    B.st h v77 v76 fun h =>
    B.pv (V.idxS 1 v3 v62) fun v80 =>
    B.ld h v80 fun v81 =>
    B.pv (V.bin .lss v81 (.int .i64 0)) fun v82 =>
    B.cond v82
    (Q v13 h)
    (B.pv (V.idxS 1 v0 v62) fun v86 =>
    B.ld h v86 fun v87 =>
    B.pv (V.idxS 1 v3 v62) fun v90 =>
    B.ld h v90 fun v91 =>
    B.pv (V.idxS 1 v0 v62) fun v94 =>
    B.ld h v94 fun v95 =>
    B.pv (V.idxS 1 v3 v62) fun v98 =>
    B.ld h v98 fun v99 =>
    B.pv (V.idxS 1 v95 v99) fun v100 =>
    B.ld h v100 fun v101 =>
    B.pv (V.bin .sub v101 v13) fun v103 =>
    B.pv (V.idxS 1 v87 v91) fun v104 =>
    B.st h v104 v103 fun h =>
    B.pv (V.idxS 1 v3 v62) fun v107 =>
    B.ld h v107 fun v108 =>
    Y1 [v108] h)
@[simp] def ref05_along.l2 (C : CSem) (N : Nat → Nat) (Q : AVal → AHeap → Prop) (v0 v2 v3 v13 : AVal) : List AVal → AHeap → (List AVal → AHeap → Prop) → Prop
  | [v14], h, Y1 => ref05_along.k1 C N Q Y1 v0 v2 v3 v13 v14 h
  | _, _, _ => False
@[simp] def ref05_along.k3 (C : CSem) (N : Nat → Nat) (Q : AVal → AHeap → Prop) (v0 v1 v2 v3 v4 v13 : AVal) (h : AHeap) : Prop :=
  B.pv (V.idxS 1 v1 v4) fun v53 =>
    B.ld h v53 fun v54 =>
    B.pv (V.bin .sub v54 v13) fun v56 =>
    B.pv (V.idxS 1 v1 v4) fun v57 =>
    B.st h v57 v56 fun h =>
    LoopR (ref05_along.l2 C N Q v0 v2 v3 v13) [v4] h
@[simp] def ref05_along.k4 (C : CSem) (N : Nat → Nat) (Q : AVal → AHeap → Prop) (Y2 : List AVal → AHeap → Prop) (v0 v1 v2 v3 v4 v13 v14 : AVal) (h : AHeap) : Prop :=
  B.pv (V.idxS 1 v2 v14) fun v27 =>
    B.ld h v27 fun v28 =>
    B.pv (V.idxS 1 v3 v28) fun v29 =>
    B.ld h v29 fun v30 =>
    B.pv (V.bin .geq v30 (.int .i64 0)) fun v31 =>
    B.cond v31
    (B.pv (V.idxS 1 v2 v14) fun v34 =>
    B.ld h v34 fun v35 =>
    B.pv (V.idxS 1 v3 v35) fun v38 =>
    B.ld h v38 fun v39 =>
    B.pv (V.idxS 1 v0 v35) fun v43 =>
    B.ld h v43 fun v44 =>
    B.pv (V.idxS 1 v44 v39) fun v46 =>
    B.ld h v46 fun v47 =>
    B.pv (V.min2 v13 v47) fun v48 =>
    Y2 [v48, v39] h)
    (ref05_along.k3 C N Q v0 v1 v2 v3 v4 v13 h)
@[simp] def ref05_along.l5 (C : CSem) (N : Nat → Nat) (Q : AVal → AHeap → Prop) (v0 v1 v2 v3 v4 : AVal) : List AVal → AHeap → (List AVal → AHeap → Prop) → Prop
  | [v13, v14], h, Y2 => ref05_along.k4 C N Q Y2 v0 v1 v2 v3 v4 v13 v14 h
  | _, _, _ => False
/-- storeman/storemanref05.along -/
@[simp] def ref05_along.cps (C : CSem) (N : Nat → Nat) (v0 v1 v2 v3 v4 v5 : AVal) (h : AHeap) (Q : AVal → AHeap → Prop) : Prop :=
  B.pv (V.idxS 1 v1 v4) fun v20 =>
    B.ld h v20 fun v21 =>
    B.pv (V.min2 v5 v21) fun v22 =>
    LoopR (ref05_along.l5 C N Q v0 v1 v2 v3 v4) [v22, v4] h
def ref05_along.Imp (C : CSem) (N : Nat → Nat) : Prop := ∀ (v0 v1 v2 v3 v4 v5 : AVal) (h : AHeap) (Q : AVal → AHeap → Prop), ref05_along.cps C N v0 v1 v2 v3 v4 v5 h (dn Q) → C (N 242) [v0, v1, v2, v3, v4, v5] h Q
end Go.Ab

/- What is told: residuals: what each function does in the abstract memory, printed by a program of mine. Definitions alone. -/
set_option linter.unusedVariables false
namespace Go.Ab
@[simp] def slices_CloneG.cps (C : CSem) (E : ElOps) (v0 : AVal) (h : AHeap) (Q : AVal → AHeap → Prop) : Prop :=
  B.pv (V.eqSl .eql v0 .nils) fun v4 =>
    B.cond v4
    (Q .nils h)
    (B.appW h E.es E.bytes .sz v0 fun v7 h =>
    Q v7 h)
@[simp] def slices_SortStableFuncG.cps (C : CSem) (E : ElOps) (f1 : Nat) (v0 v1 : AVal) (h : AHeap) (Q : AVal → AHeap → Prop) : Prop :=
  B.pv (V.lenSl v0) fun v6 =>
    B.call C f1 [v0, v6, v1] h fun v8 h =>
    Q (.tup []) h
@[simp] def slices_stableCmpFuncG.k1 (C : CSem) (E : ElOps) (f1 f2 : Nat) (Q : AVal → AHeap → Prop) (Y1 : List AVal → AHeap → Prop) (v0 v1 v2 v6 v7 : AVal) (h : AHeap) : Prop :=
  B.pv (V.bin .add v7 v6) fun v51 =>
    B.pv (V.bin .lss v51 v1) fun v54 =>
    B.cond v54
    (B.call C f1 [v0, v7, v51, v1, v2] h fun v60 h =>
    B.pv (V.bin .mul v6 (.int .i64 2)) fun v62 =>
    Y1 [v62] h)
    (B.pv (V.bin .mul v6 (.int .i64 2)) fun v62 =>
    Y1 [v62] h)
@[simp] def slices_stableCmpFuncG.k2 (C : CSem) (E : ElOps) (f1 f2 : Nat) (Q : AVal → AHeap → Prop) (Y1 : List AVal → AHeap → Prop) (Y2 : List AVal → AHeap → Prop) (v0 v1 v2 v6 v7 v8 : AVal) (h : AHeap) : Prop :=
  B.pv (V.bin .leq v8 v1) fun v35 =>
    B.cond v35
    (B.pv (V.bin .add v7 v6) fun v40 =>
    B.call C f1 [v0, v7, v40, v8, v2] h fun v43 h =>
    B.pv (V.bin .mul (.int .i64 2) v6) fun v47 =>
    B.pv (V.bin .add v8 v47) fun v48 =>
    Y2 [v8, v48] h)
    (slices_stableCmpFuncG.k1 C E f1 f2 Q Y1 v0 v1 v2 v6 v7 h)
@[simp] def slices_stableCmpFuncG.l3 (C : CSem) (E : ElOps) (f1 f2 : Nat) (Q : AVal → AHeap → Prop) (Y1 : List AVal → AHeap → Prop) (v0 v1 v2 v6 : AVal) : List AVal → AHeap → (List AVal → AHeap → Prop) → Prop
  | [v7, v8], h, Y2 => slices_stableCmpFuncG.k2 C E f1 f2 Q Y1 Y2 v0 v1 v2 v6 v7 v8 h
  | _, _, _ => False
@[simp] def slices_stableCmpFuncG.k4 (C : CSem) (E : ElOps) (f1 f2 : Nat) (Q : AVal → AHeap → Prop) (Y1 : List AVal → AHeap → Prop) (v0 v1 v2 v6 : AVal) (h : AHeap) : Prop :=
  B.pv (V.bin .lss v6 v1) fun v30 =>
    B.cond v30
    (B.pv (V.bin .mul (.int .i64 2) v6) fun v32 =>
    LoopR (slices_stableCmpFuncG.l3 C E f1 f2 Q Y1 v0 v1 v2 v6) [(.int .i64 0), v32] h)
    (Q (.tup []) h)
@[simp] def slices_stableCmpFuncG.l5 (C : CSem) (E : ElOps) (f1 f2 : Nat) (Q : AVal → AHeap → Prop) (v0 v1 v2 : AVal) : List AVal → AHeap → (List AVal → AHeap → Prop) → Prop
  | [v6], h, Y1 => slices_stableCmpFuncG.k4 C E f1 f2 Q Y1 v0 v1 v2 v6 h
  | _, _, _ => False
@[simp] def slices_stableCmpFuncG.k6 (C : CSem) (E : ElOps) (f1 f2 : Nat) (Q : AVal → AHeap → Prop) (Y3 : List AVal → AHeap → Prop) (v0 v1 v2 v6 v7 v8 : AVal) (h : AHeap) : Prop :=
  B.pv (V.bin .leq v8 v1) fun v13 =>
    B.cond v13
    (B.call C f2 [v0, v7, v8, v2] h fun v18 h =>
    B.pv (V.bin .add v8 v6) fun v22 =>
    Y3 [v8, v22] h)
    (B.call C f2 [v0, v7, v1, v2] h fun v27 h =>
    LoopR (slices_stableCmpFuncG.l5 C E f1 f2 Q v0 v1 v2) [v6] h)
@[simp] def slices_stableCmpFuncG.l7 (C : CSem) (E : ElOps) (f1 f2 : Nat) (Q : AVal → AHeap → Prop) (v0 v1 v2 v6 : AVal) : List AVal → AHeap → (List AVal → AHeap → Prop) → Prop
  | [v7, v8], h, Y3 => slices_stableCmpFuncG.k6 C E f1 f2 Q Y3 v0 v1 v2 v6 v7 v8 h
  | _, _, _ => False
@[simp] def slices_stableCmpFuncG.cps (C : CSem) (E : ElOps) (f1 f2 : Nat) (v0 v1 v2 : AVal) (h : AHeap) (Q : AVal → AHeap → Prop) : Prop :=
  LoopR (slices_stableCmpFuncG.l7 C E f1 f2 Q v0 v1 v2 (.int .i64 20)) [(.int .i64 0), (.int .i64 20)] h
@[simp] def slices_insertionSortCmpFuncG.k1 (C : CSem) (E : ElOps) (Q : AVal → AHeap → Prop) (Y1 : List AVal → AHeap → Prop) (Y2 : List AVal → AHeap → Prop) (v0 v1 v2 v3 v8 v9 : AVal) (h : AHeap) : Prop :=
  B.pv (V.bin .gtr v9 v1) fun v20 =>
    B.gd h v20 true (fun K => K v3 h) fun v22 h =>
    B.gd h v20 true (fun K => K v0 h) fun v23 h =>
    B.gd h v20 true (fun K => K v9 h) fun v24 h =>
    B.gd h v20 true (fun K => B.pv (V.idxS E.es v23 v24) fun v => K v h) fun v25 h =>
    B.gd h v20 true (fun K => E.ld h v25 fun v => K v h) fun v26 h =>
    B.gd h v20 true (fun K => K v0 h) fun v27 h =>
    B.gd h v20 true (fun K => K v9 h) fun v28 h =>
    B.gd h v20 true (fun K => B.pv (V.bin .sub v28 (.int .i64 1)) fun v => K v h) fun v29 h =>
    B.gd h v20 true (fun K => B.pv (V.idxS E.es v27 v29) fun v => K v h) fun v30 h =>
    B.gd h v20 true (fun K => E.ld h v30 fun v => K v h) fun v31 h =>
    B.gd h v20 true (fun K => B.callv h C v22 [v26, v31] K) fun v32 h =>
    B.gd h v20 true (fun K => B.pv (V.bin .lss v32 (.int .i64 0)) fun v => K v h) fun v33 h =>
    B.pick v20 v33 (.bool false) fun v34 =>
    B.cond v34
    (B.pv (V.bin .sub v9 (.int .i64 1)) fun v41 =>
    B.pv (V.bin .sub v9 (.int .i64 1)) fun v44 =>
    B.pv (V.idxS E.es v0 v44) fun v45 =>
    E.ld h v45 fun v46 =>
    B.pv (V.idxS E.es v0 v9) fun v49 =>
    E.ld h v49 fun v50 =>
    B.pv (V.idxS E.es v0 v9) fun v51 =>
    E.st h v51 v46 fun h =>
    B.pv (V.idxS E.es v0 v41) fun v52 =>
    E.st h v52 v50 fun h =>
    B.pv (V.bin .sub v9 (.int .i64 1)) fun v36 =>
    Y2 [v36] h)
    (B.pv (V.bin .add v8 (.int .i64 1)) fun v16 =>
    Y1 [v16] h)
@[simp] def slices_insertionSortCmpFuncG.l2 (C : CSem) (E : ElOps) (Q : AVal → AHeap → Prop) (Y1 : List AVal → AHeap → Prop) (v0 v1 v2 v3 v8 : AVal) : List AVal → AHeap → (List AVal → AHeap → Prop) → Prop
  | [v9], h, Y2 => slices_insertionSortCmpFuncG.k1 C E Q Y1 Y2 v0 v1 v2 v3 v8 v9 h
  | _, _, _ => False
@[simp] def slices_insertionSortCmpFuncG.l3 (C : CSem) (E : ElOps) (Q : AVal → AHeap → Prop) (v0 v1 v2 v3 : AVal) : List AVal → AHeap → (List AVal → AHeap → Prop) → Prop
  | [v8], h, Y1 => B.pv (V.bin .lss v8 v2) fun v14 =>
    B.cond v14
    (LoopR (slices_insertionSortCmpFuncG.l2 C E Q Y1 v0 v1 v2 v3 v8) [v8] h)
    (Q (.tup []) h)
  | _, _, _ => False
@[simp] def slices_insertionSortCmpFuncG.cps (C : CSem) (E : ElOps) (v0 v1 v2 v3 : AVal) (h : AHeap) (Q : AVal → AHeap → Prop) : Prop :=
  B.pv (V.bin .add v1 (.int .i64 1)) fun v11 =>
    LoopR (slices_insertionSortCmpFuncG.l3 C E Q v0 v1 v2 v3) [v11] h
@[simp] def slices_symMergeCmpFuncG.k1 (C : CSem) (E : ElOps) (f1 f2 : Nat) (Q : AVal → AHeap → Prop) (v0 v3 v4 v18 v24 : AVal) (h : AHeap) : Prop :=
  B.pv (V.bin .lss v18 v24) fun v208 =>
    B.gd h v208 true (fun K => K v24 h) fun v210 h =>
    B.gd h v208 true (fun K => K v3 h) fun v211 h =>
    B.gd h v208 true (fun K => B.pv (V.bin .lss v210 v211) fun v => K v h) fun v212 h =>
    B.pick v208 v212 (.bool false) fun v213 =>
    B.cond v213
    (B.call C f1 [v0, v18, v24, v3, v4] h fun v219 h =>
    Q (.tup []) h)
    (Q (.tup []) h)
@[simp] def slices_symMergeCmpFuncG.k2 (C : CSem) (E : ElOps) (f1 f2 : Nat) (Q : AVal → AHeap → Prop) (v0 v1 v3 v4 v18 v20 v24 : AVal) (h : AHeap) : Prop :=
  B.pv (V.bin .lss v1 v20) fun v194 =>
    B.gd h v194 true (fun K => K v20 h) fun v196 h =>
    B.gd h v194 true (fun K => K v18 h) fun v197 h =>
    B.gd h v194 true (fun K => B.pv (V.bin .lss v196 v197) fun v => K v h) fun v198 h =>
    B.pick v194 v198 (.bool false) fun v199 =>
    B.cond v199
    (B.call C f1 [v0, v1, v20, v18, v4] h fun v205 h =>
    slices_symMergeCmpFuncG.k1 C E f1 f2 Q v0 v3 v4 v18 v24 h)
    (slices_symMergeCmpFuncG.k1 C E f1 f2 Q v0 v3 v4 v18 v24 h)
@[simp] def slices_symMergeCmpFuncG.k3 (C : CSem) (E : ElOps) (f1 f2 : Nat) (Q : AVal → AHeap → Prop) (v0 v1 v2 v3 v4 v18 v20 v24 : AVal) (h : AHeap) : Prop :=
  B.pv (V.bin .lss v20 v2) fun v180 =>
    B.gd h v180 true (fun K => K v2 h) fun v182 h =>
    B.gd h v180 true (fun K => K v24 h) fun v183 h =>
    B.gd h v180 true (fun K => B.pv (V.bin .lss v182 v183) fun v => K v h) fun v184 h =>
    B.pick v180 v184 (.bool false) fun v185 =>
    B.cond v185
    (B.call C f2 [v0, v20, v2, v24, v4] h fun v191 h =>
    slices_symMergeCmpFuncG.k2 C E f1 f2 Q v0 v1 v3 v4 v18 v20 v24 h)
    (slices_symMergeCmpFuncG.k2 C E f1 f2 Q v0 v1 v3 v4 v18 v20 v24 h)
@[simp] def slices_symMergeCmpFuncG.k4 (C : CSem) (E : ElOps) (f1 f2 : Nat) (Q : AVal → AHeap → Prop) (Y1 : List AVal → AHeap → Prop) (v0 v1 v2 v3 v4 v18 v19 v20 v21 v22 : AVal) (h : AHeap) : Prop :=
  B.pv (V.bin .lss v20 v21) fun v151 =>
    B.cond v151
    (B.pv (V.bin .add v20 v21) fun v154 =>
    B.pv (V.toInt .u64 v154) fun v155 =>
    B.pv (V.bin .shr v155 (.int .u64 1)) fun v156 =>
    B.pv (V.toInt .i64 v156) fun v157 =>
    B.pv (V.bin .sub v22 v157) fun v162 =>
    B.pv (V.idxS E.es v0 v162) fun v163 =>
    E.ld h v163 fun v164 =>
    B.pv (V.idxS E.es v0 v157) fun v167 =>
    E.ld h v167 fun v168 =>
    B.callv h C v4 [v164, v168] fun v169 h =>
    B.pv (V.bin .lss v169 (.int .i64 0)) fun v170 =>
    B.pv (V.un .not v170) fun v171 =>
    B.cond v171
    (B.pv (V.bin .add v157 (.int .i64 1)) fun v173 =>
    Y1 [v173, v21] h)
    (Y1 [v20, v157] h))
    (B.pv (V.bin .sub v19 v20) fun v177 =>
    slices_symMergeCmpFuncG.k3 C E f1 f2 Q v0 v1 v2 v3 v4 v18 v20 v177 h)
@[simp] def slices_symMergeCmpFuncG.l5 (C : CSem) (E : ElOps) (f1 f2 : Nat) (Q : AVal → AHeap → Prop) (v0 v1 v2 v3 v4 v18 v19 v22 : AVal) : List AVal → AHeap → (List AVal → AHeap → Prop) → Prop
  | [v20, v21], h, Y1 => slices_symMergeCmpFuncG.k4 C E f1 f2 Q Y1 v0 v1 v2 v3 v4 v18 v19 v20 v21 v22 h
  | _, _, _ => False
@[simp] def slices_symMergeCmpFuncG.k6 (C : CSem) (E : ElOps) (f1 f2 : Nat) (Q : AVal → AHeap → Prop) (v0 v1 v2 v3 v4 v18 v19 : AVal) (h : AHeap) : Prop :=
  B.pv (V.bin .gtr v2 v18) fun v140 =>
    B.cond v140
    (B.pv (V.bin .sub v19 v3) fun v143 =>
    B.pv (V.bin .sub v19 (.int .i64 1)) fun v148 =>
    LoopR (slices_symMergeCmpFuncG.l5 C E f1 f2 Q v0 v1 v2 v3 v4 v18 v19 v148) [v143, v18] h)
    (B.pv (V.bin .sub v19 (.int .i64 1)) fun v148 =>
    LoopR (slices_symMergeCmpFuncG.l5 C E f1 f2 Q v0 v1 v2 v3 v4 v18 v19 v148) [v1, v2] h)
@[simp] def slices_symMergeCmpFuncG.k7 (C : CSem) (E : ElOps) (f1 f2 : Nat) (Q : AVal → AHeap → Prop) (v0 v1 v2 v3 v4 : AVal) (h : AHeap) : Prop :=
  B.pv (V.bin .add v1 v3) fun v131 =>
    B.pv (V.toInt .u64 v131) fun v132 =>
    B.pv (V.bin .shr v132 (.int .u64 1)) fun v133 =>
    B.pv (V.toInt .i64 v133) fun v134 =>
    B.pv (V.bin .add v134 v2) fun v137 =>
    slices_symMergeCmpFuncG.k6 C E f1 f2 Q v0 v1 v2 v3 v4 v134 v137 h
@[simp] def slices_symMergeCmpFuncG.k8 (C : CSem) (E : ElOps) (f1 f2 : Nat) (Q : AVal → AHeap → Prop) (Y2 : List AVal → AHeap → Prop) (v0 v14 v17 : AVal) (h : AHeap) : Prop :=
  B.pv (V.bin .gtr v17 v14) fun v110 =>
    B.cond v110
    (B.pv (V.bin .sub v17 (.int .i64 1)) fun v117 =>
    B.pv (V.bin .sub v17 (.int .i64 1)) fun v120 =>
    B.pv (V.idxS E.es v0 v120) fun v121 =>
    E.ld h v121 fun v122 =>
    B.pv (V.idxS E.es v0 v17) fun v125 =>
    E.ld h v125 fun v126 =>
    B.pv (V.idxS E.es v0 v17) fun v127 =>
    E.st h v127 v122 fun h =>
    B.pv (V.idxS E.es v0 v117) fun v128 =>
    E.st h v128 v126 fun h =>
    B.pv (V.bin .sub v17 (.int .i64 1)) fun v112 =>
    Y2 [v112] h)
    (Q (.tup []) h)
@[simp] def slices_symMergeCmpFuncG.l9 (C : CSem) (E : ElOps) (f1 f2 : Nat) (Q : AVal → AHeap → Prop) (v0 v14 : AVal) : List AVal → AHeap → (List AVal → AHeap → Prop) → Prop
  | [v17], h, Y2 => slices_symMergeCmpFuncG.k8 C E f1 f2 Q Y2 v0 v14 v17 h
  | _, _, _ => False
@[simp] def slices_symMergeCmpFuncG.k10 (C : CSem) (E : ElOps) (f1 f2 : Nat) (Q : AVal → AHeap → Prop) (Y3 : List AVal → AHeap → Prop) (v0 v2 v4 v14 v15 : AVal) (h : AHeap) : Prop :=
  B.pv (V.bin .lss v14 v15) fun v85 =>
    B.cond v85
    (B.pv (V.bin .add v14 v15) fun v88 =>
    B.pv (V.toInt .u64 v88) fun v89 =>
    B.pv (V.bin .shr v89 (.int .u64 1)) fun v90 =>
    B.pv (V.toInt .i64 v90) fun v91 =>
    B.pv (V.idxS E.es v0 v2) fun v95 =>
    E.ld h v95 fun v96 =>
    B.pv (V.idxS E.es v0 v91) fun v99 =>
    E.ld h v99 fun v100 =>
    B.callv h C v4 [v96, v100] fun v101 h =>
    B.pv (V.bin .lss v101 (.int .i64 0)) fun v102 =>
    B.pv (V.un .not v102) fun v103 =>
    B.cond v103
    (B.pv (V.bin .add v91 (.int .i64 1)) fun v105 =>
    Y3 [v105, v15] h)
    (Y3 [v14, v91] h))
    (LoopR (slices_symMergeCmpFuncG.l9 C E f1 f2 Q v0 v14) [v2] h)
@[simp] def slices_symMergeCmpFuncG.l11 (C : CSem) (E : ElOps) (f1 f2 : Nat) (Q : AVal → AHeap → Prop) (v0 v2 v4 : AVal) : List AVal → AHeap → (List AVal → AHeap → Prop) → Prop
  | [v14, v15], h, Y3 => slices_symMergeCmpFuncG.k10 C E f1 f2 Q Y3 v0 v2 v4 v14 v15 h
  | _, _, _ => False
@[simp] def slices_symMergeCmpFuncG.k12 (C : CSem) (E : ElOps) (f1 f2 : Nat) (Q : AVal → AHeap → Prop) (v0 v1 v2 v3 v4 : AVal) (h : AHeap) : Prop :=
  B.pv (V.bin .sub v3 v2) fun v79 =>
    B.pv (V.bin .eql v79 (.int .i64 1)) fun v80 =>
    B.cond v80 (LoopR (slices_symMergeCmpFuncG.l11 C E f1 f2 Q v0 v2 v4) [v1, v2] h) (slices_symMergeCmpFuncG.k7 C E f1 f2 Q v0 v1 v2 v3 v4 h)
@[simp] def slices_symMergeCmpFuncG.k13 (C : CSem) (E : ElOps) (f1 f2 : Nat) (Q : AVal → AHeap → Prop) (Y4 : List AVal → AHeap → Prop) (v0 v10 v13 : AVal) (h : AHeap) : Prop :=
  B.pv (V.bin .sub v10 (.int .i64 1)) fun v57 =>
    B.pv (V.bin .lss v13 v57) fun v58 =>
    B.cond v58
    (B.pv (V.bin .add v13 (.int .i64 1)) fun v65 =>
    B.pv (V.bin .add v13 (.int .i64 1)) fun v68 =>
    B.pv (V.idxS E.es v0 v68) fun v69 =>
    E.ld h v69 fun v70 =>
    B.pv (V.idxS E.es v0 v13) fun v73 =>
    E.ld h v73 fun v74 =>
    B.pv (V.idxS E.es v0 v13) fun v75 =>
    E.st h v75 v70 fun h =>
    B.pv (V.idxS E.es v0 v65) fun v76 =>
    E.st h v76 v74 fun h =>
    B.pv (V.bin .add v13 (.int .i64 1)) fun v60 =>
    Y4 [v60] h)
    (Q (.tup []) h)
@[simp] def slices_symMergeCmpFuncG.l14 (C : CSem) (E : ElOps) (f1 f2 : Nat) (Q : AVal → AHeap → Prop) (v0 v10 : AVal) : List AVal → AHeap → (List AVal → AHeap → Prop) → Prop
  | [v13], h, Y4 => slices_symMergeCmpFuncG.k13 C E f1 f2 Q Y4 v0 v10 v13 h
  | _, _, _ => False
@[simp] def slices_symMergeCmpFuncG.k15 (C : CSem) (E : ElOps) (f1 f2 : Nat) (Q : AVal → AHeap → Prop) (Y5 : List AVal → AHeap → Prop) (v0 v1 v4 v10 v11 : AVal) (h : AHeap) : Prop :=
  B.pv (V.bin .lss v10 v11) fun v33 =>
    B.cond v33
    (B.pv (V.bin .add v10 v11) fun v36 =>
    B.pv (V.toInt .u64 v36) fun v37 =>
    B.pv (V.bin .shr v37 (.int .u64 1)) fun v38 =>
    B.pv (V.toInt .i64 v38) fun v39 =>
    B.pv (V.idxS E.es v0 v39) fun v43 =>
    E.ld h v43 fun v44 =>
    B.pv (V.idxS E.es v0 v1) fun v47 =>
    E.ld h v47 fun v48 =>
    B.callv h C v4 [v44, v48] fun v49 h =>
    B.pv (V.bin .lss v49 (.int .i64 0)) fun v50 =>
    B.cond v50
    (B.pv (V.bin .add v39 (.int .i64 1)) fun v52 =>
    Y5 [v52, v11] h)
    (Y5 [v10, v39] h))
    (LoopR (slices_symMergeCmpFuncG.l14 C E f1 f2 Q v0 v10) [v1] h)
@[simp] def slices_symMergeCmpFuncG.l16 (C : CSem) (E : ElOps) (f1 f2 : Nat) (Q : AVal → AHeap → Prop) (v0 v1 v4 : AVal) : List AVal → AHeap → (List AVal → AHeap → Prop) → Prop
  | [v10, v11], h, Y5 => slices_symMergeCmpFuncG.k15 C E f1 f2 Q Y5 v0 v1 v4 v10 v11 h
  | _, _, _ => False
@[simp] def slices_symMergeCmpFuncG.k17 (C : CSem) (E : ElOps) (f1 f2 : Nat) (Q : AVal → AHeap → Prop) (v0 v1 v2 v3 v4 : AVal) (h : AHeap) : Prop :=
  B.pv (V.bin .sub v2 v1) fun v27 =>
    B.pv (V.bin .eql v27 (.int .i64 1)) fun v28 =>
    B.cond v28 (LoopR (slices_symMergeCmpFuncG.l16 C E f1 f2 Q v0 v1 v4) [v2, v3] h) (slices_symMergeCmpFuncG.k12 C E f1 f2 Q v0 v1 v2 v3 v4 h)
@[simp] def slices_symMergeCmpFuncG.cps (C : CSem) (E : ElOps) (f1 f2 : Nat) (v0 v1 v2 v3 v4 : AVal) (h : AHeap) (Q : AVal → AHeap → Prop) : Prop :=
  slices_symMergeCmpFuncG.k17 C E f1 f2 Q v0 v1 v2 v3 v4 h
@[simp] def slices_rotateCmpFuncG.k1 (C : CSem) (E : ElOps) (f1 : Nat) (Q : AVal → AHeap → Prop) (Y1 : List AVal → AHeap → Prop) (v0 v2 v4 v10 v11 : AVal) (h : AHeap) : Prop :=
  B.pv (V.bin .neq v10 v11) fun v20 =>
    B.cond v20
    (B.pv (V.bin .gtr v10 v11) fun v23 =>
    B.cond v23
    (B.pv (V.bin .sub v2 v10) fun v27 =>
    B.call C f1 [v0, v27, v2, v11, v4] h fun v31 h =>
    B.pv (V.bin .sub v10 v11) fun v34 =>
    Y1 [v34, v11] h)
    (B.pv (V.bin .sub v2 v10) fun v38 =>
    B.pv (V.bin .add v2 v11) fun v41 =>
    B.pv (V.bin .sub v41 v10) fun v43 =>
    B.call C f1 [v0, v38, v43, v10, v4] h fun v46 h =>
    B.pv (V.bin .sub v11 v10) fun v49 =>
    Y1 [v10, v49] h))
    (B.pv (V.bin .sub v2 v10) fun v53 =>
    B.call C f1 [v0, v53, v2, v10, v4] h fun v57 h =>
    Q (.tup []) h)
@[simp] def slices_rotateCmpFuncG.l2 (C : CSem) (E : ElOps) (f1 : Nat) (Q : AVal → AHeap → Prop) (v0 v2 v4 : AVal) : List AVal → AHeap → (List AVal → AHeap → Prop) → Prop
  | [v10, v11], h, Y1 => slices_rotateCmpFuncG.k1 C E f1 Q Y1 v0 v2 v4 v10 v11 h
  | _, _, _ => False
@[simp] def slices_rotateCmpFuncG.cps (C : CSem) (E : ElOps) (f1 : Nat) (v0 v1 v2 v3 v4 : AVal) (h : AHeap) (Q : AVal → AHeap → Prop) : Prop :=
  B.pv (V.bin .sub v2 v1) fun v14 =>
    B.pv (V.bin .sub v3 v2) fun v17 =>
    LoopR (slices_rotateCmpFuncG.l2 C E f1 Q v0 v2 v4) [v14, v17] h
@[simp] def slices_swapRangeCmpFuncG.k1 (C : CSem) (E : ElOps) (Q : AVal → AHeap → Prop) (Y1 : List AVal → AHeap → Prop) (v0 v1 v2 v3 v10 : AVal) (h : AHeap) : Prop :=
  B.pv (V.bin .lss v10 v3) fun v13 =>
    B.cond v13
    (B.pv (V.bin .add v1 v10) fun v19 =>
    B.pv (V.bin .add v2 v10) fun v23 =>
    B.pv (V.bin .add v2 v10) fun v27 =>
    B.pv (V.idxS E.es v0 v27) fun v28 =>
    E.ld h v28 fun v29 =>
    B.pv (V.bin .add v1 v10) fun v33 =>
    B.pv (V.idxS E.es v0 v33) fun v34 =>
    E.ld h v34 fun v35 =>
    B.pv (V.idxS E.es v0 v19) fun v36 =>
    E.st h v36 v29 fun h =>
    B.pv (V.idxS E.es v0 v23) fun v37 =>
    E.st h v37 v35 fun h =>
    B.pv (V.bin .add v10 (.int .i64 1)) fun v15 =>
    Y1 [v15] h)
    (Q (.tup []) h)
@[simp] def slices_swapRangeCmpFuncG.l2 (C : CSem) (E : ElOps) (Q : AVal → AHeap → Prop) (v0 v1 v2 v3 : AVal) : List AVal → AHeap → (List AVal → AHeap → Prop) → Prop
  | [v10], h, Y1 => slices_swapRangeCmpFuncG.k1 C E Q Y1 v0 v1 v2 v3 v10 h
  | _, _, _ => False
@[simp] def slices_swapRangeCmpFuncG.cps (C : CSem) (E : ElOps) (v0 v1 v2 v3 v4 : AVal) (h : AHeap) (Q : AVal → AHeap → Prop) : Prop :=
  LoopR (slices_swapRangeCmpFuncG.l2 C E Q v0 v1 v2 v3) [(.int .i64 0)] h
@[simp] def slices_IndexFuncG.k1 (C : CSem) (E : ElOps) (Q : AVal → AHeap → Prop) (Y1 : List AVal → AHeap → Prop) (v0 v1 v7 v8 : AVal) (h : AHeap) : Prop :=
  B.pv (V.bin .lss v8 v7) fun v9 =>
    B.cond v9
    (B.pv (V.idxS E.es v0 v8) fun v14 =>
    E.ld h v14 fun v15 =>
    B.callv h C v1 [v15] fun v16 h =>
    B.cond v16
    (Q v8 h)
    (B.pv (V.bin .add v8 (.int .i64 1)) fun v18 =>
    Y1 [v18] h))
    (Q (.int .i64 (-1)) h)
@[simp] def slices_IndexFuncG.l2 (C : CSem) (E : ElOps) (Q : AVal → AHeap → Prop) (v0 v1 v7 : AVal) : List AVal → AHeap → (List AVal → AHeap → Prop) → Prop
  | [v8], h, Y1 => slices_IndexFuncG.k1 C E Q Y1 v0 v1 v7 v8 h
  | _, _, _ => False
@[simp] def slices_IndexFuncG.cps (C : CSem) (E : ElOps) (v0 v1 : AVal) (h : AHeap) (Q : AVal → AHeap → Prop) : Prop :=
  B.pv (V.lenSl v0) fun v7 =>
    LoopR (slices_IndexFuncG.l2 C E Q v0 v1 v7) [(.int .i64 0)] h
@[simp] def slices_ContainsFuncG.cps (C : CSem) (E : ElOps) (f1 : Nat) (v0 v1 : AVal) (h : AHeap) (Q : AVal → AHeap → Prop) : Prop :=
  B.call C f1 [v0, v1] h fun v7 h =>
    B.pv (V.bin .geq v7 (.int .i64 0)) fun v8 =>
    Q v8 h
end Go.Ab

/- What is told: residuals: what each function does in the abstract memory, printed by a program of mine. Definitions alone. -/
set_option linter.unusedVariables false
namespace Go.Ab
/-- slices.Clone[[]storeman/api.Lot,storeman/api.Lot] -/
def slices_Clone_api_Lot_api_Lot.cps (C : CSem) (N : Nat → Nat) (v0 : AVal) (h : AHeap) (Q : AVal → AHeap → Prop) : Prop :=
  slices_CloneG.cps C (opsF 6 56 [.int .i64 0, .str [], .int .i64 0, .int .i64 0, .int .i64 0, .bool false] 0 []) v0 h Q
def slices_Clone_api_Lot_api_Lot.Imp (C : CSem) (N : Nat → Nat) : Prop := ∀ (v0 : AVal) (h : AHeap) (Q : AVal → AHeap → Prop), slices_Clone_api_Lot_api_Lot.cps C N v0 h (dn Q) → C (N 160) [v0] h Q
/-- slices.SortStableFunc[[]storeman/api.Lot,storeman/api.Lot] -/
def slices_SortStableFunc_api_Lot_api_Lot.cps (C : CSem) (N : Nat → Nat) (v0 v1 : AVal) (h : AHeap) (Q : AVal → AHeap → Prop) : Prop :=
  slices_SortStableFuncG.cps C (opsF 6 56 [.int .i64 0, .str [], .int .i64 0, .int .i64 0, .int .i64 0, .bool false] 0 []) (N 166) v0 v1 h Q
def slices_SortStableFunc_api_Lot_api_Lot.Imp (C : CSem) (N : Nat → Nat) : Prop := ∀ (v0 v1 : AVal) (h : AHeap) (Q : AVal → AHeap → Prop), slices_SortStableFunc_api_Lot_api_Lot.cps C N v0 v1 h (dn Q) → C (N 161) [v0, v1] h Q
/-- slices.stableCmpFunc[storeman/api.Lot] -/
def slices_stableCmpFunc_api_Lot.cps (C : CSem) (N : Nat → Nat) (v0 v1 v2 : AVal) (h : AHeap) (Q : AVal → AHeap → Prop) : Prop :=
  slices_stableCmpFuncG.cps C (opsF 6 56 [.int .i64 0, .str [], .int .i64 0, .int .i64 0, .int .i64 0, .bool false] 0 []) (N 167) (N 168) v0 v1 v2 h Q
def slices_stableCmpFunc_api_Lot.Imp (C : CSem) (N : Nat → Nat) : Prop := ∀ (v0 v1 v2 : AVal) (h : AHeap) (Q : AVal → AHeap → Prop), slices_stableCmpFunc_api_Lot.cps C N v0 v1 v2 h (dn Q) → C (N 166) [v0, v1, v2] h Q
/-- slices.symMergeCmpFunc[storeman/api.Lot] -/
def slices_symMergeCmpFunc_api_Lot.cps (C : CSem) (N : Nat → Nat) (v0 v1 v2 v3 v4 : AVal) (h : AHeap) (Q : AVal → AHeap → Prop) : Prop :=
  slices_symMergeCmpFuncG.cps C (opsF 6 56 [.int .i64 0, .str [], .int .i64 0, .int .i64 0, .int .i64 0, .bool false] 0 []) (N 167) (N 169) v0 v1 v2 v3 v4 h Q
def slices_symMergeCmpFunc_api_Lot.Imp (C : CSem) (N : Nat → Nat) : Prop := ∀ (v0 v1 v2 v3 v4 : AVal) (h : AHeap) (Q : AVal → AHeap → Prop), slices_symMergeCmpFunc_api_Lot.cps C N v0 v1 v2 v3 v4 h (dn Q) → C (N 167) [v0, v1, v2, v3, v4] h Q
/-- slices.insertionSortCmpFunc[storeman/api.Lot] -/
def slices_insertionSortCmpFunc_api_Lot.cps (C : CSem) (N : Nat → Nat) (v0 v1 v2 v3 : AVal) (h : AHeap) (Q : AVal → AHeap → Prop) : Prop :=
  slices_insertionSortCmpFuncG.cps C (opsF 6 56 [.int .i64 0, .str [], .int .i64 0, .int .i64 0, .int .i64 0, .bool false] 0 []) v0 v1 v2 v3 h Q
def slices_insertionSortCmpFunc_api_Lot.Imp (C : CSem) (N : Nat → Nat) : Prop := ∀ (v0 v1 v2 v3 : AVal) (h : AHeap) (Q : AVal → AHeap → Prop), slices_insertionSortCmpFunc_api_Lot.cps C N v0 v1 v2 v3 h (dn Q) → C (N 168) [v0, v1, v2, v3] h Q
/-- slices.rotateCmpFunc[storeman/api.Lot] -/
def slices_rotateCmpFunc_api_Lot.cps (C : CSem) (N : Nat → Nat) (v0 v1 v2 v3 v4 : AVal) (h : AHeap) (Q : AVal → AHeap → Prop) : Prop :=
  slices_rotateCmpFuncG.cps C (opsF 6 56 [.int .i64 0, .str [], .int .i64 0, .int .i64 0, .int .i64 0, .bool false] 0 []) (N 170) v0 v1 v2 v3 v4 h Q
def slices_rotateCmpFunc_api_Lot.Imp (C : CSem) (N : Nat → Nat) : Prop := ∀ (v0 v1 v2 v3 v4 : AVal) (h : AHeap) (Q : AVal → AHeap → Prop), slices_rotateCmpFunc_api_Lot.cps C N v0 v1 v2 v3 v4 h (dn Q) → C (N 169) [v0, v1, v2, v3, v4] h Q
/-- slices.swapRangeCmpFunc[storeman/api.Lot] -/
def slices_swapRangeCmpFunc_api_Lot.cps (C : CSem) (N : Nat → Nat) (v0 v1 v2 v3 v4 : AVal) (h : AHeap) (Q : AVal → AHeap → Prop) : Prop :=
  slices_swapRangeCmpFuncG.cps C (opsF 6 56 [.int .i64 0, .str [], .int .i64 0, .int .i64 0, .int .i64 0, .bool false] 0 []) v0 v1 v2 v3 v4 h Q
def slices_swapRangeCmpFunc_api_Lot.Imp (C : CSem) (N : Nat → Nat) : Prop := ∀ (v0 v1 v2 v3 v4 : AVal) (h : AHeap) (Q : AVal → AHeap → Prop), slices_swapRangeCmpFunc_api_Lot.cps C N v0 v1 v2 v3 v4 h (dn Q) → C (N 170) [v0, v1, v2, v3, v4] h Q
/-- slices.ContainsFunc[[]storeman/api.Want,storeman/api.Want] -/
def slices_ContainsFunc_api_Want_api_Want.cps (C : CSem) (N : Nat → Nat) (v0 v1 : AVal) (h : AHeap) (Q : AVal → AHeap → Prop) : Prop :=
  slices_ContainsFuncG.cps C (opsF 3 32 [.str [], .int .i64 0, .int .i64 0] 0 []) (N 244) v0 v1 h Q
def slices_ContainsFunc_api_Want_api_Want.Imp (C : CSem) (N : Nat → Nat) : Prop := ∀ (v0 v1 : AVal) (h : AHeap) (Q : AVal → AHeap → Prop), slices_ContainsFunc_api_Want_api_Want.cps C N v0 v1 h (dn Q) → C (N 237) [v0, v1] h Q
/-- slices.IndexFunc[[]storeman/api.Want,storeman/api.Want] -/
def slices_IndexFunc_api_Want_api_Want.cps (C : CSem) (N : Nat → Nat) (v0 v1 : AVal) (h : AHeap) (Q : AVal → AHeap → Prop) : Prop :=
  slices_IndexFuncG.cps C (opsF 3 32 [.str [], .int .i64 0, .int .i64 0] 0 []) v0 v1 h Q
def slices_IndexFunc_api_Want_api_Want.Imp (C : CSem) (N : Nat → Nat) : Prop := ∀ (v0 v1 : AVal) (h : AHeap) (Q : AVal → AHeap → Prop), slices_IndexFunc_api_Want_api_Want.cps C N v0 v1 h (dn Q) → C (N 244) [v0, v1] h Q
/-- slices.SortStableFunc[[]int,int] -/
def slices_SortStableFunc_int_int.cps (C : CSem) (N : Nat → Nat) (v0 v1 : AVal) (h : AHeap) (Q : AVal → AHeap → Prop) : Prop :=
  slices_SortStableFuncG.cps C (opsS 8 (.int .i64 0) 0) (N 248) v0 v1 h Q
def slices_SortStableFunc_int_int.Imp (C : CSem) (N : Nat → Nat) : Prop := ∀ (v0 v1 : AVal) (h : AHeap) (Q : AVal → AHeap → Prop), slices_SortStableFunc_int_int.cps C N v0 v1 h (dn Q) → C (N 246) [v0, v1] h Q
/-- slices.stableCmpFunc[int] -/
def slices_stableCmpFunc_int.cps (C : CSem) (N : Nat → Nat) (v0 v1 v2 : AVal) (h : AHeap) (Q : AVal → AHeap → Prop) : Prop :=
  slices_stableCmpFuncG.cps C (opsS 8 (.int .i64 0) 0) (N 249) (N 250) v0 v1 v2 h Q
def slices_stableCmpFunc_int.Imp (C : CSem) (N : Nat → Nat) : Prop := ∀ (v0 v1 v2 : AVal) (h : AHeap) (Q : AVal → AHeap → Prop), slices_stableCmpFunc_int.cps C N v0 v1 v2 h (dn Q) → C (N 248) [v0, v1, v2] h Q
/-- slices.symMergeCmpFunc[int] -/
def slices_symMergeCmpFunc_int.cps (C : CSem) (N : Nat → Nat) (v0 v1 v2 v3 v4 : AVal) (h : AHeap) (Q : AVal → AHeap → Prop) : Prop :=
  slices_symMergeCmpFuncG.cps C (opsS 8 (.int .i64 0) 0) (N 249) (N 251) v0 v1 v2 v3 v4 h Q
def slices_symMergeCmpFunc_int.Imp (C : CSem) (N : Nat → Nat) : Prop := ∀ (v0 v1 v2 v3 v4 : AVal) (h : AHeap) (Q : AVal → AHeap → Prop), slices_symMergeCmpFunc_int.cps C N v0 v1 v2 v3 v4 h (dn Q) → C (N 249) [v0, v1, v2, v3, v4] h Q
/-- slices.insertionSortCmpFunc[int] -/
def slices_insertionSortCmpFunc_int.cps (C : CSem) (N : Nat → Nat) (v0 v1 v2 v3 : AVal) (h : AHeap) (Q : AVal → AHeap → Prop) : Prop :=
  slices_insertionSortCmpFuncG.cps C (opsS 8 (.int .i64 0) 0) v0 v1 v2 v3 h Q
def slices_insertionSortCmpFunc_int.Imp (C : CSem) (N : Nat → Nat) : Prop := ∀ (v0 v1 v2 v3 : AVal) (h : AHeap) (Q : AVal → AHeap → Prop), slices_insertionSortCmpFunc_int.cps C N v0 v1 v2 v3 h (dn Q) → C (N 250) [v0, v1, v2, v3] h Q
/-- slices.rotateCmpFunc[int] -/
def slices_rotateCmpFunc_int.cps (C : CSem) (N : Nat → Nat) (v0 v1 v2 v3 v4 : AVal) (h : AHeap) (Q : AVal → AHeap → Prop) : Prop :=
  slices_rotateCmpFuncG.cps C (opsS 8 (.int .i64 0) 0) (N 252) v0 v1 v2 v3 v4 h Q
def slices_rotateCmpFunc_int.Imp (C : CSem) (N : Nat → Nat) : Prop := ∀ (v0 v1 v2 v3 v4 : AVal) (h : AHeap) (Q : AVal → AHeap → Prop), slices_rotateCmpFunc_int.cps C N v0 v1 v2 v3 v4 h (dn Q) → C (N 251) [v0, v1, v2, v3, v4] h Q
/-- slices.swapRangeCmpFunc[int] -/
def slices_swapRangeCmpFunc_int.cps (C : CSem) (N : Nat → Nat) (v0 v1 v2 v3 v4 : AVal) (h : AHeap) (Q : AVal → AHeap → Prop) : Prop :=
  slices_swapRangeCmpFuncG.cps C (opsS 8 (.int .i64 0) 0) v0 v1 v2 v3 v4 h Q
def slices_swapRangeCmpFunc_int.Imp (C : CSem) (N : Nat → Nat) : Prop := ∀ (v0 v1 v2 v3 v4 : AVal) (h : AHeap) (Q : AVal → AHeap → Prop), slices_swapRangeCmpFunc_int.cps C N v0 v1 v2 v3 v4 h (dn Q) → C (N 252) [v0, v1, v2, v3, v4] h Q
end Go.Ab

/- What is told: residuals: what each function does in the abstract memory, printed by a program of mine. Definitions alone. -/
set_option linter.unusedVariables false
namespace Go.Ab
@[simp] def window_Right.k1 (C : CSem) (N : Nat → Nat) (Q : AVal → AHeap → Prop) (v0 : AVal) (h : AHeap) : Prop :=
  B.pv (A.boxN 2 v0) fun c1 =>
    B.al c1 (B.pv (V.field1 0 c1) fun v4 =>
    B.pv (V.bin .leq (.int .i64 0) v4) fun v5 =>
    B.al c1 (B.gd h v5 true (fun K => K .undef h) fun _ h =>
    B.gd h v5 true (fun K => B.pv (V.field1 0 c1) fun v => K v h) fun v8 h =>
    B.al c1 (B.gd h v5 true (fun K => K .undef h) fun _ h =>
    B.gd h v5 true (fun K => B.pv (V.field1 1 c1) fun v => K v h) fun v10 h =>
    B.gd h v5 true (fun K => B.pv (V.bin .leq v8 v10) fun v => K v h) fun v11 h =>
    B.pick v5 v11 (.bool false) fun v12 =>
    B.al c1 (B.gd h v12 true (fun K => K .undef h) fun _ h =>
    B.gd h v12 true (fun K => B.pv (V.field1 1 c1) fun v => K v h) fun v15 h =>
    B.gd h v12 true (fun K => B.pv (V.bin .leq v15 (.int .i64 4001)) fun v => K v h) fun v16 h =>
    B.pick v12 v16 (.bool false) fun v17 =>
    Q v17 h))))
/-- storeman/window.Right -/
@[simp] def window_Right.cps (C : CSem) (N : Nat → Nat) (v0 : AVal) (h : AHeap) (Q : AVal → AHeap → Prop) : Prop :=
  window_Right.k1 C N Q v0 h
def window_Right.Imp (C : CSem) (N : Nat → Nat) : Prop := ∀ (v0 : AVal) (h : AHeap) (Q : AVal → AHeap → Prop), window_Right.cps C N v0 h (dn Q) → C (N 5) [v0] h Q
@[simp] def window_Has.k1 (C : CSem) (N : Nat → Nat) (Q : AVal → AHeap → Prop) (v0 v1 : AVal) (h : AHeap) : Prop :=
  B.pv (A.boxN 2 v0) fun c2 =>
    B.pv (V.fieldN 0 2 c2) fun v5 =>
    B.call C (N 5) [v5] h fun v6 h =>
    B.al c2 (B.gd h v6 true (fun K => K .undef h) fun _ h =>
    B.gd h v6 true (fun K => B.pv (V.field1 0 c2) fun v => K v h) fun v9 h =>
    B.gd h v6 true (fun K => K v1 h) fun v10 h =>
    B.gd h v6 true (fun K => B.pv (V.bin .leq v9 v10) fun v => K v h) fun v11 h =>
    B.pick v6 v11 (.bool false) fun v12 =>
    B.gd h v12 true (fun K => K v1 h) fun v14 h =>
    B.al c2 (B.gd h v12 true (fun K => K .undef h) fun _ h =>
    B.gd h v12 true (fun K => B.pv (V.field1 1 c2) fun v => K v h) fun v16 h =>
    B.gd h v12 true (fun K => B.pv (V.bin .lss v14 v16) fun v => K v h) fun v17 h =>
    B.pick v12 v17 (.bool false) fun v18 =>
    Q v18 h))
/-- storeman/window.Has -/
@[simp] def window_Has.cps (C : CSem) (N : Nat → Nat) (v0 v1 : AVal) (h : AHeap) (Q : AVal → AHeap → Prop) : Prop :=
  window_Has.k1 C N Q v0 v1 h
def window_Has.Imp (C : CSem) (N : Nat → Nat) : Prop := ∀ (v0 v1 : AVal) (h : AHeap) (Q : AVal → AHeap → Prop), window_Has.cps C N v0 v1 h (dn Q) → C (N 7) [v0, v1] h Q
end Go.Ab

/- What is proved: each function of this program does what its residual tells. -/
set_option linter.unusedVariables false
set_option maxRecDepth 100000
namespace Go.Ab.S05
open Go.Ab Go.Proofs

noncomputable abbrev P : Program := Try.prog
def N (k : Nat) : Nat := [0, 0, 0, 0, 0, 42, 61, 27, 49, 0, 0, 0, 0, 0, 0, 0, 0, 0, 0, 0, 48, 0, 0, 0, 0, 0, 0, 0, 0, 0, 0, 0, 0, 0, 0, 0, 0, 0, 0, 0, 0, 0, 0, 0, 0, 0, 0, 0, 13, 23, 0, 0, 50, 52, 21, 26, 0, 0, 0, 0, 45, 60, 0, 0, 0, 0, 0, 0, 0, 0, 0, 0, 0, 0, 20, 19, 0, 33, 37, 0, 0, 0, 0, 0, 0, 0, 0, 0, 0, 0, 0, 0, 0, 0, 0, 0, 0, 0, 0, 0, 0, 0, 0, 0, 0, 0, 0, 34, 0, 0, 0, 0, 0, 0, 0, 0, 0, 0, 0, 0, 0, 0, 0, 0, 0, 0, 0, 0, 0, 0, 0, 0, 0, 0, 0, 0, 0, 0, 0, 0, 0, 0, 0, 0, 57, 36, 0, 0, 0, 43, 0, 0, 0, 0, 0, 28, 0, 64, 63, 0, 55, 56, 0, 0, 0, 0, 62, 67, 66, 71, 73, 68, 0, 0, 0, 0, 0, 0, 0, 0, 0, 0, 0, 0, 0, 0, 0, 0, 0, 0, 0, 0, 0, 0, 0, 0, 0, 0, 0, 0, 0, 0, 0, 0, 0, 0, 0, 0, 0, 0, 0, 0, 0, 9, 10, 11, 12, 3, 14, 15, 16, 17, 18, 22, 4, 24, 25, 5, 6, 29, 7, 8, 30, 32, 31, 35, 41, 40, 39, 38, 44, 46, 47, 51, 54, 59, 58, 53, 65, 70, 69, 72, 74].getD k 0
theorem mixed : P.follows .mixedOrders = true := by kernel_rfl

def law05_FlowAny.I : Bx := ⟨[], [], 18, []⟩
theorem law05_FlowAny.L {C : CSem} (hC : CMono C) (Q : AVal → AHeap → Prop) (s : Slots) (h : AHeap) (hR : law05_FlowAny.cps C N (s 0) (s 1) h Q) : bwp P C law05_FlowAny.I (Try.f3.body.getD .skip) (retB P law05_FlowAny.I Try.f3.results.toList Q) s h :=
  e1 hR
theorem law05_FlowAny.imp : law05_FlowAny.Imp (AC P) N := fun v0 v1 h Q hR => eF mixed (fn := Try.f3) (fun hC => law05_FlowAny.L hC (dn Q) (startS [v0, v1]) h hR)

def law05_FlowFills.I : Bx := ⟨[], [], 84, []⟩
theorem law05_FlowFills.L {C : CSem} (hC : CMono C) (Q : AVal → AHeap → Prop) (s : Slots) (h : AHeap) (hR : law05_FlowFills.cps C N (s 0) (s 1) h Q) : bwp P C law05_FlowFills.I (Try.f4.body.getD .skip) (retB P law05_FlowFills.I Try.f4.results.toList Q) s h :=
  e1 hR
theorem law05_FlowFills.imp : law05_FlowFills.Imp (AC P) N := fun v0 v1 h Q hR => eF mixed (fn := Try.f4) (fun hC => law05_FlowFills.L hC (dn Q) (startS [v0, v1]) h hR)

def law05_awake.I : Bx := ⟨[], [], 52, []⟩
theorem law05_awake.L {C : CSem} (hC : CMono C) (Q : AVal → AHeap → Prop) (s : Slots) (h : AHeap) (hR : law05_awake.cps C N h Q) : bwp P C law05_awake.I (Try.f9.body.getD .skip) (retB P law05_awake.I Try.f9.results.toList Q) s h :=
  e1 hR
theorem law05_awake.imp : law05_awake.Imp (AC P) N := fun h Q hR => eF mixed (fn := Try.f9) (fun hC => law05_awake.L hC (dn Q) (startS []) h hR)

def law05_small.I : Bx := ⟨[], [], 13, []⟩
theorem law05_small.L {C : CSem} (hC : CMono C) (Q : AVal → AHeap → Prop) (s : Slots) (h : AHeap) (hR : law05_small.cps C N (s 0) (s 1) h Q) : bwp P C law05_small.I (Try.f10.body.getD .skip) (retB P law05_small.I Try.f10.results.toList Q) s h :=
  e1 hR
theorem law05_small.imp : law05_small.Imp (AC P) N := fun v0 v1 h Q hR => eF mixed (fn := Try.f10) (fun hC => law05_small.L hC (dn Q) (startS [v0, v1]) h hR)

def flow_Fits.I : Bx := ⟨[], [], 16, []⟩
theorem flow_Fits.L {C : CSem} (hC : CMono C) (Q : AVal → AHeap → Prop) (s : Slots) (h : AHeap) (hR : flow_Fits.cps C N (s 0) (s 1) h Q) : bwp P C flow_Fits.I (Try.f11.body.getD .skip) (retB P flow_Fits.I Try.f11.results.toList Q) s h :=
  e1 hR
theorem flow_Fits.imp : flow_Fits.Imp (AC P) N := fun v0 v1 h Q hR => eF mixed (fn := Try.f11) (fun hC => flow_Fits.L hC (dn Q) (startS [v0, v1]) h hR)

def ref05_Any.I : Bx := ⟨[], [], 73, []⟩
theorem ref05_Any.L {C : CSem} (hC : CMono C) (Q : AVal → AHeap → Prop) (s : Slots) (h : AHeap) (hR : ref05_Any.cps C N (s 0) (s 1) h Q) : bwp P C ref05_Any.I (Try.f12.body.getD .skip) (retB P ref05_Any.I Try.f12.results.toList Q) s h :=
  eS hC (fun s h => ref05_Any.k9 C N Q (s 0) (s 1) h) (e1 hR) (fun s h hR => eS hC (fun s h => B.pv (V.lenSl (s 0)) fun v17 =>
    0 < 1 ∧ B.mks h 8 (some [.int .i64 0]) v17 v17 fun v18 h =>
    LoopR (ref05_Any.l8 C N Q (s 0) (s 1) v18) [(.int .i64 0)] h) (e1 hR) (fun s h hR => eS hC (fun s h => LoopR (ref05_Any.l8 C N Q (s 0) (s 1) (s 5)) [(.int .i64 0)] h) (e1 hR) (fun s h hR => eS hC (fun s h => B.pv (V.lenSl (s 1)) fun v34 =>
    0 < 1 ∧ B.mks h 24 (some [.nils]) v34 v34 fun v35 h =>
    LoopR (ref05_Any.l6 C N Q (s 0) (s 1) (s 5) v35) [(.int .i64 0)] h) (eS hC (fun s h => LoopR (ref05_Any.l8 C N Q (s 0) (s 1) (s 5)) [(s 6)] h) (e1 hR) (fun s h hR => eK (eL hC [0, 1, 5] [6] (fun kv lv h Y4 => match kv with | [v0, v1, v5] => ref05_Any.l8 C N Q v0 v1 v5 lv h Y4 | _ => False) hR (fun Y4 s h hR => e1 hR)))) (fun s h hR => eS hC (fun s h => LoopR (ref05_Any.l6 C N Q (s 0) (s 1) (s 5) (s 7)) [(.int .i64 0)] h) (e1 hR) (fun s h hR => eS hC (fun s h => LoopR (ref05_Any.l4 C N Q (s 0) (s 1) (s 5) (s 7)) [(.int .i64 0)] h) (eS hC (fun s h => LoopR (ref05_Any.l6 C N Q (s 0) (s 1) (s 5) (s 7)) [(s 8)] h) (e1 hR) (fun s h hR => eK (eL hC [0, 1, 5, 7] [8] (fun kv lv h Y3 => match kv with | [v0, v1, v5, v7] => ref05_Any.l6 C N Q v0 v1 v5 v7 lv h Y3 | _ => False) hR (fun Y3 s h hR => e1 hR)))) (fun s h hR => eS hC (fun s h => Q (.bool true) h) (eS hC (fun s h => LoopR (ref05_Any.l4 C N Q (s 0) (s 1) (s 5) (s 7)) [(s 9)] h) (e1 hR) (fun s h hR => eK (eL hC [0, 1, 5, 7] [9] (fun kv lv h Y1 => match kv with | [v0, v1, v5, v7] => ref05_Any.l4 C N Q v0 v1 v5 v7 lv h Y1 | _ => False) hR (fun Y1 s h hR => eS hC (fun s h => B.pv (V.idxS 3 (s 1) (s 9)) fun v56 =>
    B.pv (V.fieldAddr 2 v56) fun v57 =>
    B.ld h v57 fun v58 =>
    LoopR (ref05_Any.l2 C N Q Y1 (s 0) (s 1) (s 5) (s 7) (s 9)) [v58] h) (e1 hR) (fun s h hR => eS hC (fun s h => B.pv (V.bin .add (s 9) (.int .i64 1)) fun v53 =>
    Y1 [v53] h) (eK (eS hC (fun s h => LoopR (ref05_Any.l2 C N Q Y1 (s 0) (s 1) (s 5) (s 7) (s 9)) [(s 10)] h) (e1 hR) (fun s h hR => eK (eL hC [0, 1, 5, 7, 9] [10] (fun kv lv h Y2 => match kv with | [v0, v1, v5, v7, v9] => ref05_Any.l2 C N Q Y1 v0 v1 v5 v7 v9 lv h Y2 | _ => False) hR (fun Y2 s h hR => e1 hR))))) (fun s h hR => e1 hR)))))) (fun s h hR => e1 hR)))))))
theorem ref05_Any.imp : ref05_Any.Imp (AC P) N := fun v0 v1 h Q hR => eF mixed (fn := Try.f12) (fun hC => ref05_Any.L hC (dn Q) (startS [v0, v1]) h hR)

def kit_LentLots.I : Bx := ⟨[], [], 25, []⟩
theorem kit_LentLots.L {C : CSem} (hC : CMono C) (Q : AVal → AHeap → Prop) (s : Slots) (h : AHeap) (hR : kit_LentLots.cps C N (s 0) h Q) : bwp P C kit_LentLots.I (Try.f13.body.getD .skip) (retB P kit_LentLots.I Try.f13.results.toList Q) s h :=
  eS hC (fun s h => kit_LentLots.k3 C N Q (s 0) h) (e1 hR) (fun s h hR => eS hC (fun s h => B.appW h 6 56 (s 3) (s 0) fun v11 h =>
    LoopR (lentG.l4 C 6 56 (N 77) [.int .i64 0, .str [], .int .i64 0, .int .i64 0, .int .i64 0, .bool false] 1 Q (s 0)) [v11, (.int .i64 0)] h) (e1 hR) (fun s h hR => eS hC (fun s h => LoopR (lentG.l4 C 6 56 (N 77) [.int .i64 0, .str [], .int .i64 0, .int .i64 0, .int .i64 0, .bool false] 1 Q (s 0)) [(s 3), (.int .i64 0)] h) (e1 hR) (fun s h hR => eS hC (fun s h => B.pv (V.lenSl (s 0)) fun v23 =>
    B.pv (V.cutSl 6 (s 3) none (some v23)) fun v24 =>
    Q v24 h) (eS hC (fun s h => LoopR (lentG.l4 C 6 56 (N 77) [.int .i64 0, .str [], .int .i64 0, .int .i64 0, .int .i64 0, .bool false] 1 Q (s 0)) [(s 3), (s 4)] h) (e1 hR) (fun s h hR => eK (eL hC [0] [3, 4] (fun kv lv h Y1 => match kv with | [v0] => lentG.l4 C 6 56 (N 77) [.int .i64 0, .str [], .int .i64 0, .int .i64 0, .int .i64 0, .bool false] 1 Q v0 lv h Y1 | _ => False) hR (fun Y1 s h hR => e1 hR)))) (fun s h hR => e1 hR))))
theorem kit_LentLots.imp : kit_LentLots.Imp (AC P) N := fun v0 h Q hR => eF mixed (fn := Try.f13) (fun hC => kit_LentLots.L hC (dn Q) (startS [v0]) h hR)

def kit_LentWants.I : Bx := ⟨[], [], 25, []⟩
theorem kit_LentWants.L {C : CSem} (hC : CMono C) (Q : AVal → AHeap → Prop) (s : Slots) (h : AHeap) (hR : kit_LentWants.cps C N (s 0) h Q) : bwp P C kit_LentWants.I (Try.f14.body.getD .skip) (retB P kit_LentWants.I Try.f14.results.toList Q) s h :=
  eS hC (fun s h => kit_LentWants.k3 C N Q (s 0) h) (e1 hR) (fun s h hR => eS hC (fun s h => B.appW h 3 32 (s 3) (s 0) fun v11 h =>
    LoopR (lentG.l4 C 3 32 (N 107) [.str [], .int .i64 0, .int .i64 0] 1 Q (s 0)) [v11, (.int .i64 0)] h) (e1 hR) (fun s h hR => eS hC (fun s h => LoopR (lentG.l4 C 3 32 (N 107) [.str [], .int .i64 0, .int .i64 0] 1 Q (s 0)) [(s 3), (.int .i64 0)] h) (e1 hR) (fun s h hR => eS hC (fun s h => B.pv (V.lenSl (s 0)) fun v23 =>
    B.pv (V.cutSl 3 (s 3) none (some v23)) fun v24 =>
    Q v24 h) (eS hC (fun s h => LoopR (lentG.l4 C 3 32 (N 107) [.str [], .int .i64 0, .int .i64 0] 1 Q (s 0)) [(s 3), (s 4)] h) (e1 hR) (fun s h hR => eK (eL hC [0] [3, 4] (fun kv lv h Y1 => match kv with | [v0] => lentG.l4 C 3 32 (N 107) [.str [], .int .i64 0, .int .i64 0] 1 Q v0 lv h Y1 | _ => False) hR (fun Y1 s h hR => e1 hR)))) (fun s h hR => e1 hR))))
theorem kit_LentWants.imp : kit_LentWants.Imp (AC P) N := fun v0 h Q hR => eF mixed (fn := Try.f14) (fun hC => kit_LentWants.L hC (dn Q) (startS [v0]) h hR)

def flow_Fill.I : Bx := ⟨[], [], 18, []⟩
theorem flow_Fill.L {C : CSem} (hC : CMono C) (Q : AVal → AHeap → Prop) (s : Slots) (h : AHeap) (hR : flow_Fill.cps C N (s 0) (s 1) h Q) : bwp P C flow_Fill.I (Try.f15.body.getD .skip) (retB P flow_Fill.I Try.f15.results.toList Q) s h :=
  e1 hR
theorem flow_Fill.imp : flow_Fill.Imp (AC P) N := fun v0 v1 h Q hR => eF mixed (fn := Try.f15) (fun hC => flow_Fill.L hC (dn Q) (startS [v0, v1]) h hR)

def ref05_Fill.I : Bx := ⟨[], [], 157, [(17, [(0, []), (1, []), (2, []), (3, []), (4, []), (5, []), (6, []), (7, []), (8, []), (9, []), (10, []), (11, []), (12, []), (13, []), (14, []), (15, []), (16, []), (17, []), (18, []), (19, []), (20, []), (21, [])]), (26, [(0, []), (1, []), (2, []), (3, []), (4, []), (5, []), (6, []), (7, []), (8, []), (9, []), (10, []), (11, []), (12, []), (13, []), (14, []), (15, []), (16, []), (17, []), (18, []), (19, []), (20, []), (21, []), (22, []), (23, []), (24, []), (25, []), (26, []), (27, []), (28, []), (29, []), (30, []), (31, [])])]⟩
theorem ref05_Fill.L {C : CSem} (hC : CMono C) (Q : AVal → AHeap → Prop) (s : Slots) (h : AHeap) (hR : ref05_Fill.cps C N (s 0) (s 1) h Q) : bwp P C ref05_Fill.I (Try.f16.body.getD .skip) (retB P ref05_Fill.I Try.f16.results.toList Q) s h :=
  eS hC (fun s h => ref05_Fill.k14 C N Q (s 0) (s 1) h) (e1 hR) (fun s h hR => eS hC (fun s h => B.pv (V.lenSl (s 0)) fun v22 =>
    0 < 1 ∧ B.mks h 8 (some [.int .i64 0]) v22 v22 fun v23 h =>
    LoopR (ref05_Fill.l13 C N Q (s 0) (s 1) v23) [(.int .i64 0)] h) (e1 hR) (fun s h hR => eS hC (fun s h => LoopR (ref05_Fill.l13 C N Q (s 0) (s 1) (s 6)) [(.int .i64 0)] h) (e1 hR) (fun s h hR => eS hC (fun s h => ref05_Fill.k11 C N Q (s 0) (s 1) (s 6) h) (eS hC (fun s h => LoopR (ref05_Fill.l13 C N Q (s 0) (s 1) (s 6)) [(s 7)] h) (e1 hR) (fun s h hR => eK (eL hC [0, 1, 6] [7] (fun kv lv h Y5 => match kv with | [v0, v1, v6] => ref05_Fill.l13 C N Q v0 v1 v6 lv h Y5 | _ => False) hR (fun Y5 s h hR => e1 hR)))) (fun s h hR => eS hC (fun s h => LoopR (ref05_Fill.l10 C N Q (s 0) (s 1) (s 6) (s 8)) [.nils, (.int .i64 0)] h) (e1 hR) (fun s h hR => eS hC (fun s h => LoopR (ref05_Fill.l10 C N Q (s 0) (s 1) (s 6) (s 8)) [(s 9), (.int .i64 0)] h) (e1 hR) (fun s h hR => eS hC (fun s h => Q (.tup [(s 9), (.bool true)]) h) (eS hC (fun s h => LoopR (ref05_Fill.l10 C N Q (s 0) (s 1) (s 6) (s 8)) [(s 9), (s 10)] h) (e1 hR) (fun s h hR => eK (eL hC [0, 1, 6, 8] [9, 10] (fun kv lv h Y1 => match kv with | [v0, v1, v6, v8] => ref05_Fill.l10 C N Q v0 v1 v6 v8 lv h Y1 | _ => False) hR (fun Y1 s h hR => eS hC (fun s h => LoopR (ref05_Fill.l8 C N Q Y1 (s 0) (s 1) (s 6) (s 8) (s 9) (s 10)) [(.int .i64 (-1)), (.int .i64 0)] h) (e1 hR) (fun s h hR => eS hC (fun s h => B.pv (V.bin .add (s 10) (.int .i64 1)) fun v46 =>
    Y1 [(s 9), v46] h) (eK (eS hC (fun s h => LoopR (ref05_Fill.l8 C N Q Y1 (s 0) (s 1) (s 6) (s 8) (s 9) (s 10)) [(s 11), (.int .i64 0)] h) (e1 hR) (fun s h hR => eS hC (fun s h => B.pv (V.idxS 1 (s 8) (s 11)) fun v78 =>
    B.st h v78 (.bool true) fun h =>
    ref05_Fill.k6 C N Q Y1 (s 0) (s 1) (s 6) (s 8) (s 9) (s 10) (s 11) h) (eS hC (fun s h => LoopR (ref05_Fill.l8 C N Q Y1 (s 0) (s 1) (s 6) (s 8) (s 9) (s 10)) [(s 11), (s 12)] h) (e1 hR) (fun s h hR => eK (eL hC [0, 1, 6, 8, 9, 10] [11, 12] (fun kv lv h Y4 => match kv with | [v0, v1, v6, v8, v9, v10] => ref05_Fill.l8 C N Q Y1 v0 v1 v6 v8 v9 v10 lv h Y4 | _ => False) hR (fun Y4 s h hR => e1 hR)))) (fun s h hR => eS hC (fun s h => ref05_Fill.k6 C N Q Y1 (s 0) (s 1) (s 6) (s 8) (s 9) (s 10) (s 11) h) (e1 hR) (fun s h hR => eS hC (fun s h => LoopR (ref05_Fill.l5 C N Q Y1 (s 0) (s 1) (s 6) (s 8) (s 10) (s 11)) [(s 9), (s 13)] h) (e1 hR) (fun s h hR => eK (eL hC [0, 1, 6, 8, 10, 11] [9, 13] (fun kv lv h Y2 => match kv with | [v0, v1, v6, v8, v10, v11] => ref05_Fill.l5 C N Q Y1 v0 v1 v6 v8 v10 v11 lv h Y2 | _ => False) hR (fun Y2 s h hR => eS hC (fun s h => LoopR (ref05_Fill.l3 C N Q Y1 Y2 (s 0) (s 1) (s 6) (s 8) (s 9) (s 10) (s 11) (s 13)) [(.int .i64 (-1)), (.int .i64 0)] h) (e1 hR) (fun s h hR => eK (eS hC (fun s h => LoopR (ref05_Fill.l3 C N Q Y1 Y2 (s 0) (s 1) (s 6) (s 8) (s 9) (s 10) (s 11) (s 13)) [(s 14), (.int .i64 0)] h) (e1 hR) (fun s h hR => eS hC (fun s h => ref05_Fill.k1 C N Q Y1 Y2 (s 0) (s 1) (s 6) (s 8) (s 9) (s 10) (s 11) (s 13) (s 14) h) (eS hC (fun s h => LoopR (ref05_Fill.l3 C N Q Y1 Y2 (s 0) (s 1) (s 6) (s 8) (s 9) (s 10) (s 11) (s 13)) [(s 14), (s 15)] h) (e1 hR) (fun s h hR => eK (eL hC [0, 1, 6, 8, 9, 10, 11, 13] [14, 15] (fun kv lv h Y3 => match kv with | [v0, v1, v6, v8, v9, v10, v11, v13] => ref05_Fill.l3 C N Q Y1 Y2 v0 v1 v6 v8 v9 v10 v11 v13 lv h Y3 | _ => False) hR (fun Y3 s h hR => e1 hR)))) (fun s h hR => e1 hR)))))))))))) (fun s h hR => e1 hR)))))) (fun s h hR => e1 hR)))))))
theorem ref05_Fill.imp : ref05_Fill.Imp (AC P) N := fun v0 v1 h Q hR => eF mixed (fn := Try.f16) (fun hC => ref05_Fill.L hC (dn Q) (startS [v0, v1]) h hR)

def flow_Left.I : Bx := ⟨[11], [28, 31, 32], 41, []⟩
theorem flow_Left.L {C : CSem} (hC : CMono C) (Q : AVal → AHeap → Prop) (s : Slots) (h : AHeap) (hR : flow_Left.cps C N (s 0) (s 1) h Q) : bwp P C flow_Left.I (Try.f17.body.getD .skip) (retB P flow_Left.I Try.f17.results.toList Q) s h :=
  eS hC (fun s h => flow_Left.k4 C N Q (s 0) (s 1) h) (e1 hR) (fun s h hR => eS hC (fun s h => flow_Left.k3 C N Q (s 0) (s 7) (s 8) h) (e1 hR) (fun s h hR => eS hC (fun s h => B.pv (V.lenSl (s 0)) fun v22 =>
    LoopR (flow_Left.l2 C N Q (s 7) (s 0) v22) [.nils, (.int .i64 0)] h) (e1 hR) (fun s h hR => eS hC (fun s h => B.pv (V.lenSl (s 0)) fun v22 =>
    LoopR (flow_Left.l2 C N Q (s 7) (s 0) v22) [(s 9), (.int .i64 0)] h) (e1 hR) (fun s h hR => eS hC (fun s h => Q (.tup [(s 9), (.bool true)]) h) (eS hC (fun s h => LoopR (flow_Left.l2 C N Q (s 7) (s 21) (s 22)) [(s 9), (s 23)] h) (e1 hR) (fun s h hR => eK (eL hC [7, 21, 22] [9, 23] (fun kv lv h Y1 => match kv with | [v7, v21, v22] => flow_Left.l2 C N Q v7 v21 v22 lv h Y1 | _ => False) hR (fun Y1 s h hR => e1 hR)))) (fun s h hR => e1 hR)))))
theorem flow_Left.imp : flow_Left.Imp (AC P) N := fun v0 v1 h Q hR => eF mixed (fn := Try.f17) (fun hC => flow_Left.L hC (dn Q) (startS [v0, v1]) h hR)

def ref05_Left.I : Bx := ⟨[10], [41, 44, 52, 53], 61, [(12, [(0, []), (1, []), (2, []), (3, []), (4, []), (5, []), (6, []), (7, [])]), (13, [(0, []), (1, []), (2, []), (3, []), (4, []), (5, []), (6, []), (7, []), (8, []), (9, [])])]⟩
theorem ref05_Left.L {C : CSem} (hC : CMono C) (Q : AVal → AHeap → Prop) (s : Slots) (h : AHeap) (hR : ref05_Left.cps C N (s 0) (s 1) h Q) : bwp P C ref05_Left.I (Try.f18.body.getD .skip) (retB P ref05_Left.I Try.f18.results.toList Q) s h :=
  eS hC (fun s h => ref05_Left.k7 C N Q (s 0) (s 1) h) (e1 hR) (fun s h hR => eS hC (fun s h => B.pv (V.un .not (s 7)) fun v19 =>
    B.cond v19
    (Q (.tup [.nils, (.bool false)]) h)
    (LoopR (ref05_Left.l6 C N Q (s 0) (s 6)) [.nils, (.int .i64 0)] h)) (e1 hR) (fun s h hR => eS hC (fun s h => LoopR (ref05_Left.l6 C N Q (s 0) (s 6)) [.nils, (.int .i64 0)] h) (e1 hR) (fun s h hR => eS hC (fun s h => LoopR (ref05_Left.l6 C N Q (s 0) (s 6)) [(s 8), (.int .i64 0)] h) (e1 hR) (fun s h hR => eS hC (fun s h => Q (.tup [(s 8), (.bool true)]) h) (eS hC (fun s h => LoopR (ref05_Left.l6 C N Q (s 0) (s 6)) [(s 8), (s 9)] h) (e1 hR) (fun s h hR => eK (eL hC [0, 6] [8, 9] (fun kv lv h Y1 => match kv with | [v0, v6] => ref05_Left.l6 C N Q v0 v6 lv h Y1 | _ => False) hR (fun Y1 s h hR => eS hC (fun s h => ref05_Left.k4 C N Q Y1 (s 0) (s 6) (s 8) (s 9) h) (e1 hR) (fun s h hR => eS hC (fun s h => B.pv (V.bin .add (s 9) (.int .i64 1)) fun v25 =>
    Y1 [(s 8), v25] h) (eK (eS hC (fun s h => LoopR (ref05_Left.l3 C N Q Y1 (s 0) (s 6) (s 8) (s 9)) [(.int .i64 0), (s 71)] h) (e1 hR) (fun s h hR => eS hC (fun s h => ref05_Left.k1 C N Q Y1 (s 0) (s 6) (s 8) (s 9) (s 71) h) (eS hC (fun s h => LoopR (ref05_Left.l3 C N Q Y1 (s 0) (s 6) (s 8) (s 9)) [(s 11), (s 71)] h) (e1 hR) (fun s h hR => eK (eL hC [0, 6, 8, 9] [11, 71] (fun kv lv h Y2 => match kv with | [v0, v6, v8, v9] => ref05_Left.l3 C N Q Y1 v0 v6 v8 v9 lv h Y2 | _ => False) hR (fun Y2 s h hR => e1 hR)))) (fun s h hR => e1 hR)))) (fun s h hR => e1 hR)))))) (fun s h hR => e1 hR)))))
theorem ref05_Left.imp : ref05_Left.Imp (AC P) N := fun v0 v1 h Q hR => eF mixed (fn := Try.f18) (fun hC => ref05_Left.L hC (dn Q) (startS [v0, v1]) h hR)

def kit_SameUses.I : Bx := ⟨[], [], 26, [(6, [(0, []), (1, []), (2, []), (3, []), (4, []), (5, []), (6, []), (7, []), (8, [])])]⟩
theorem kit_SameUses.L {C : CSem} (hC : CMono C) (Q : AVal → AHeap → Prop) (s : Slots) (h : AHeap) (hR : kit_SameUses.cps C N (s 0) (s 1) h Q) : bwp P C kit_SameUses.I (Try.f19.body.getD .skip) (retB P kit_SameUses.I Try.f19.results.toList Q) s h :=
  eS hC (fun s h => kit_SameUses.k3 C N Q (s 0) (s 1) h) (e1 hR) (fun s h hR => eS hC (fun s h => LoopR (sameG.l4 3 [.i .i64, .i .i64, .i .i64] Q (s 0) (s 1)) [(.int .i64 0)] h) (e1 hR) (fun s h hR => eS hC (fun s h => Q (.bool true) h) (eS hC (fun s h => LoopR (sameG.l4 3 [.i .i64, .i .i64, .i .i64] Q (s 0) (s 1)) [(s 5)] h) (e1 hR) (fun s h hR => eK (eL hC [0, 1] [5] (fun kv lv h Y1 => match kv with | [v0, v1] => sameG.l4 3 [.i .i64, .i .i64, .i .i64] Q v0 v1 lv h Y1 | _ => False) hR (fun Y1 s h hR => e1 hR)))) (fun s h hR => e1 hR)))
theorem kit_SameUses.imp : kit_SameUses.Imp (AC P) N := fun v0 v1 h Q hR => eF mixed (fn := Try.f19) (fun hC => kit_SameUses.L hC (dn Q) (startS [v0, v1]) h hR)

def kit_SameLots.I : Bx := ⟨[], [], 26, [(6, [(0, []), (1, []), (2, []), (3, []), (4, []), (5, []), (6, []), (7, []), (8, [])])]⟩
theorem kit_SameLots.L {C : CSem} (hC : CMono C) (Q : AVal → AHeap → Prop) (s : Slots) (h : AHeap) (hR : kit_SameLots.cps C N (s 0) (s 1) h Q) : bwp P C kit_SameLots.I (Try.f20.body.getD .skip) (retB P kit_SameLots.I Try.f20.results.toList Q) s h :=
  eS hC (fun s h => kit_SameLots.k3 C N Q (s 0) (s 1) h) (e1 hR) (fun s h hR => eS hC (fun s h => LoopR (sameG.l4 6 [.i .i64, .s, .i .i64, .i .i64, .i .i64, .b] Q (s 0) (s 1)) [(.int .i64 0)] h) (e1 hR) (fun s h hR => eS hC (fun s h => Q (.bool true) h) (eS hC (fun s h => LoopR (sameG.l4 6 [.i .i64, .s, .i .i64, .i .i64, .i .i64, .b] Q (s 0) (s 1)) [(s 5)] h) (e1 hR) (fun s h hR => eK (eL hC [0, 1] [5] (fun kv lv h Y1 => match kv with | [v0, v1] => sameG.l4 6 [.i .i64, .s, .i .i64, .i .i64, .i .i64, .b] Q v0 v1 lv h Y1 | _ => False) hR (fun Y1 s h hR => e1 hR)))) (fun s h hR => e1 hR)))
theorem kit_SameLots.imp : kit_SameLots.Imp (AC P) N := fun v0 v1 h Q hR => eF mixed (fn := Try.f20) (fun hC => kit_SameLots.L hC (dn Q) (startS [v0, v1]) h hR)

def kit_KeptLots.I : Bx := ⟨[], [], 58, [(7, [(0, []), (1, []), (2, []), (3, []), (4, []), (5, []), (6, []), (7, []), (8, []), (9, []), (10, []), (11, []), (12, []), (13, []), (14, []), (15, []), (16, []), (17, []), (18, []), (19, []), (20, []), (21, []), (22, []), (23, []), (24, []), (25, []), (26, []), (27, []), (28, []), (29, []), (30, [25]), (31, []), (32, []), (33, []), (34, [])])]⟩
theorem kit_KeptLots.L {C : CSem} (hC : CMono C) (Q : AVal → AHeap → Prop) (s : Slots) (h : AHeap) (hR : kit_KeptLots.cps C N (s 0) (s 1) h Q) : bwp P C kit_KeptLots.I (Try.f21.body.getD .skip) (retB P kit_KeptLots.I Try.f21.results.toList Q) s h :=
  eS hC (fun s h => kit_KeptLots.k4 C N Q (s 0) (s 1) h) (e1 hR) (fun s h hR => eS hC (fun s h => kit_KeptLots.k3 C N Q (s 0) (s 1) h) (e1 hR) (fun s h hR => eS hC (fun s h => LoopR (keptG.l4 C 6 (N 77) [.i .i64, .s, .i .i64, .i .i64, .i .i64, .b] 1 Q (s 1) (s 5)) [(.int .i64 0)] h) (e1 hR) (fun s h hR => eS hC (fun s h => Q (.bool true) h) (eS hC (fun s h => LoopR (keptG.l4 C 6 (N 77) [.i .i64, .s, .i .i64, .i .i64, .i .i64, .b] 1 Q (s 1) (s 5)) [(s 6)] h) (e1 hR) (fun s h hR => eK (eL hC [1, 5] [6] (fun kv lv h Y1 => match kv with | [v1, v5] => keptG.l4 C 6 (N 77) [.i .i64, .s, .i .i64, .i .i64, .i .i64, .b] 1 Q v1 v5 lv h Y1 | _ => False) hR (fun Y1 s h hR => e1 hR)))) (fun s h hR => e1 hR))))
theorem kit_KeptLots.imp : kit_KeptLots.Imp (AC P) N := fun v0 v1 h Q hR => eF mixed (fn := Try.f21) (fun hC => kit_KeptLots.L hC (dn Q) (startS [v0, v1]) h hR)

def kit_KeptWants.I : Bx := ⟨[], [], 58, [(7, [(0, []), (1, []), (2, []), (3, []), (4, []), (5, []), (6, []), (7, []), (8, []), (9, []), (10, []), (11, []), (12, []), (13, []), (14, []), (15, []), (16, []), (17, []), (18, []), (19, []), (20, []), (21, []), (22, []), (23, []), (24, []), (25, []), (26, []), (27, []), (28, []), (29, []), (30, [25]), (31, []), (32, []), (33, []), (34, [])])]⟩
theorem kit_KeptWants.L {C : CSem} (hC : CMono C) (Q : AVal → AHeap → Prop) (s : Slots) (h : AHeap) (hR : kit_KeptWants.cps C N (s 0) (s 1) h Q) : bwp P C kit_KeptWants.I (Try.f22.body.getD .skip) (retB P kit_KeptWants.I Try.f22.results.toList Q) s h :=
  eS hC (fun s h => kit_KeptWants.k4 C N Q (s 0) (s 1) h) (e1 hR) (fun s h hR => eS hC (fun s h => kit_KeptWants.k3 C N Q (s 0) (s 1) h) (e1 hR) (fun s h hR => eS hC (fun s h => LoopR (keptG.l4 C 3 (N 107) [.s, .i .i64, .i .i64] 1 Q (s 1) (s 5)) [(.int .i64 0)] h) (e1 hR) (fun s h hR => eS hC (fun s h => Q (.bool true) h) (eS hC (fun s h => LoopR (keptG.l4 C 3 (N 107) [.s, .i .i64, .i .i64] 1 Q (s 1) (s 5)) [(s 6)] h) (e1 hR) (fun s h hR => eK (eL hC [1, 5] [6] (fun kv lv h Y1 => match kv with | [v1, v5] => keptG.l4 C 3 (N 107) [.s, .i .i64, .i .i64] 1 Q v1 v5 lv h Y1 | _ => False) hR (fun Y1 s h hR => e1 hR)))) (fun s h hR => e1 hR))))
theorem kit_KeptWants.imp : kit_KeptWants.Imp (AC P) N := fun v0 v1 h Q hR => eF mixed (fn := Try.f22) (fun hC => kit_KeptWants.L hC (dn Q) (startS [v0, v1]) h hR)

def window_Has.I : Bx := ⟨[2], [8, 15], 19, []⟩
theorem window_Has.L {C : CSem} (hC : CMono C) (Q : AVal → AHeap → Prop) (s : Slots) (h : AHeap) (hR : window_Has.cps C N (s 0) (s 1) h Q) : bwp P C window_Has.I (Try.f27.body.getD .skip) (retB P window_Has.I Try.f27.results.toList Q) s h :=
  e1 hR
theorem window_Has.imp : window_Has.Imp (AC P) N := fun v0 v1 h Q hR => eF mixed (fn := Try.f27) (fun hC => window_Has.L hC (dn Q) (startS [v0, v1]) h hR)

def flow_fill.I : Bx := ⟨[10, 14, 17], [33, 35, 38, 41, 59, 62, 72, 79, 81, 87, 97], 109, [(9, [(0, []), (1, []), (2, []), (3, []), (4, []), (5, []), (7, []), (6, [2, 7]), (8, []), (9, [2]), (10, [])])]⟩
theorem flow_fill.L {C : CSem} (hC : CMono C) (Q : AVal → AHeap → Prop) (s : Slots) (h : AHeap) (hR : flow_fill.cps C N (s 0) (s 1) h Q) : bwp P C flow_fill.I (Try.f30.body.getD .skip) (retB P flow_fill.I Try.f30.results.toList Q) s h :=
  eS hC (fun s h => flow_fill.k11 C N Q (s 0) (s 1) h) (e1 hR) (fun s h hR => eS hC (fun s h => B.newMap h fun v23 h =>
    flow_fill.k10 C N Q (s 0) (s 1) v23 h) (e1 hR) (fun s h hR => eS hC (fun s h => flow_fill.k10 C N Q (s 0) (s 1) (s 7) h) (e1 hR) (fun s h hR => eS hC (fun s h => B.call C (N 149) [(s 0)] h fun v26 h =>
    B.pv (V.lenSl v26) fun v27 =>
    LoopR (flow_fill.l9 C N Q (s 1) (s 7) (s 8) v26 v27) [(.int .i64 0)] h) (e1 hR) (fun s h hR => eS hC (fun s h => B.call C (N 240) [(s 1)] h fun v49 h =>
    B.pv (V.lenSl v49) fun v50 =>
    LoopR (flow_fill.l7 C N Q (s 1) (s 7) (s 8) v49 v50) [.nils, (.int .i64 0)] h) (eS hC (fun s h => LoopR (flow_fill.l9 C N Q (s 1) (s 7) (s 8) (s 26) (s 27)) [(s 28)] h) (e1 hR) (fun s h hR => eK (eL hC [1, 7, 8, 26, 27] [28] (fun kv lv h Y3 => match kv with | [v1, v7, v8, v26, v27] => flow_fill.l9 C N Q v1 v7 v8 v26 v27 lv h Y3 | _ => False) hR (fun Y3 s h hR => e1 hR)))) (fun s h hR => eS hC (fun s h => B.call C (N 240) [(s 1)] h fun v49 h =>
    B.pv (V.lenSl v49) fun v50 =>
    LoopR (flow_fill.l7 C N Q (s 1) (s 7) (s 8) v49 v50) [(s 11), (.int .i64 0)] h) (e1 hR) (fun s h hR => eS hC (fun s h => Q (.tup [(s 11), (s 7), (.bool true)]) h) (eS hC (fun s h => LoopR (flow_fill.l7 C N Q (s 1) (s 7) (s 8) (s 49) (s 50)) [(s 11), (s 51)] h) (e1 hR) (fun s h hR => eK (eL hC [1, 7, 8, 49, 50] [11, 51] (fun kv lv h Y1 => match kv with | [v1, v7, v8, v49, v50] => flow_fill.l7 C N Q v1 v7 v8 v49 v50 lv h Y1 | _ => False) hR (fun Y1 s h hR => eS hC (fun s h => flow_fill.k6 C N Q Y1 (s 1) (s 7) (s 8) (s 11) (s 49) (s 50) (s 51) (s 52) h) (e1 hR) (fun s h hR => eS hC (fun s h => B.pv (V.idxS 1 (s 49) (s 51)) fun v53 =>
    B.ld h v53 fun v54 =>
    flow_fill.k5 C N Q Y1 (s 1) (s 7) (s 8) (s 11) v54 (s 49) (s 50) (s 51) h) (e1 hR) (fun s h hR => eS hC (fun s h => B.pv (V.bin .add (s 51) (.int .i64 1)) fun v106 =>
    Y1 [(s 11), v106] h) (eK (eS hC (fun s h => flow_fill.k5 C N Q Y1 (s 1) (s 7) (s 8) (s 11) (s 13) (s 49) (s 50) (s 51) h) (e1 hR) (fun s h hR => eS hC (fun s h => B.al (s 123) (B.pv (V.field1 2 (s 123)) fun v60 =>
    flow_fill.k4 C N Q Y1 (s 1) (s 7) (s 8) (s 11) (s 13) v60 (s 49) (s 50) (s 51) (s 123) h)) (e1 hR) (fun s h hR => eS hC (fun s h => flow_fill.k4 C N Q Y1 (s 1) (s 7) (s 8) (s 11) (s 13) (s 15) (s 49) (s 50) (s 51) (s 123) h) (e1 hR) (fun s h hR => eS hC (fun s h => flow_fill.k1 C N Q Y1 (s 1) (s 7) (s 8) (s 11) (s 15) (s 49) (s 50) (s 51) h) (eS hC (fun s h => LoopR (flow_fill.l3 C N Q Y1 (s 1) (s 7) (s 8) (s 13) (s 49) (s 50) (s 51) (s 64) (s 65) (s 123)) [(s 11), (s 15), (s 66)] h) (e1 hR) (fun s h hR => eK (eL hC [1, 7, 8, 13, 49, 50, 51, 64, 65, 123] [11, 15, 66] (fun kv lv h Y2 => match kv with | [v1, v7, v8, v13, v49, v50, v51, v64, v65, c14] => flow_fill.l3 C N Q Y1 v1 v7 v8 v13 v49 v50 v51 v64 v65 c14 lv h Y2 | _ => False) hR (fun Y2 s h hR => e1 hR)))) (fun s h hR => e1 hR)))))) (fun s h hR => e1 hR))))))) (fun s h hR => e1 hR)))))))
theorem flow_fill.imp : flow_fill.Imp (AC P) N := fun v0 v1 h Q hR => eF mixed (fn := Try.f30) (fun hC => flow_fill.L hC (dn Q) (startS [v0, v1]) h hR)

def ref05_May.I : Bx := ⟨[], [], 56, [(11, [(0, []), (1, []), (2, []), (3, []), (4, []), (5, []), (6, []), (7, []), (8, []), (9, []), (10, [])])]⟩
theorem ref05_May.L {C : CSem} (hC : CMono C) (Q : AVal → AHeap → Prop) (s : Slots) (h : AHeap) (hR : ref05_May.cps C N (s 0) (s 1) h Q) : bwp P C ref05_May.I (Try.f31.body.getD .skip) (retB P ref05_May.I Try.f31.results.toList Q) s h :=
  eS hC (fun s h => ref05_May.k8 C N Q (s 0) (s 1) h) (e1 hR) (fun s h hR => eS hC (fun s h => LoopR (ref05_May.l7 C N Q (s 0) (s 1)) [(.int .i64 0)] h) (e1 hR) (fun s h hR => eS hC (fun s h => LoopR (ref05_May.l2 C N Q (s 1)) [(.int .i64 0)] h) (eS hC (fun s h => LoopR (ref05_May.l7 C N Q (s 0) (s 1)) [(s 5)] h) (e1 hR) (fun s h hR => eK (eL hC [0, 1] [5] (fun kv lv h Y2 => match kv with | [v0, v1] => ref05_May.l7 C N Q v0 v1 lv h Y2 | _ => False) hR (fun Y2 s h hR => eS hC (fun s h => ref05_May.k5 C N Q Y2 (s 0) (s 1) (s 5) h) (e1 hR) (fun s h hR => eS hC (fun s h => B.pv (V.bin .add (s 5) (.int .i64 1)) fun v21 =>
    Y2 [v21] h) (eK (eS hC (fun s h => LoopR (ref05_May.l4 C N Q Y2 (s 0) (s 1) (s 5)) [(.int .i64 0)] h) (e1 hR) (fun s h hR => eS hC (fun s h => LoopR (ref05_May.l4 C N Q Y2 (s 0) (s 1) (s 5)) [(s 6)] h) (e1 hR) (fun s h hR => eK (eL hC [0, 1, 5] [6] (fun kv lv h Y3 => match kv with | [v0, v1, v5] => ref05_May.l4 C N Q Y2 v0 v1 v5 lv h Y3 | _ => False) hR (fun Y3 s h hR => e1 hR)))))) (fun s h hR => e1 hR)))))) (fun s h hR => eS hC (fun s h => Q (.bool true) h) (eS hC (fun s h => LoopR (ref05_May.l2 C N Q (s 1)) [(s 7)] h) (e1 hR) (fun s h hR => eK (eL hC [1] [7] (fun kv lv h Y1 => match kv with | [v1] => ref05_May.l2 C N Q v1 lv h Y1 | _ => False) hR (fun Y1 s h hR => e1 hR)))) (fun s h hR => e1 hR))))
theorem ref05_May.imp : ref05_May.Imp (AC P) N := fun v0 v1 h Q hR => eF mixed (fn := Try.f31) (fun hC => ref05_May.L hC (dn Q) (startS [v0, v1]) h hR)

def ref05_way.I : Bx := ⟨[], [], 129, [(20, [(0, []), (1, []), (2, []), (3, []), (4, []), (5, []), (6, []), (7, []), (8, []), (9, []), (10, []), (11, []), (12, []), (13, []), (14, []), (15, []), (16, [])])]⟩
theorem ref05_way.L {C : CSem} (hC : CMono C) (Q : AVal → AHeap → Prop) (s : Slots) (h : AHeap) (hR : ref05_way.cps C N (s 0) (s 1) (s 2) (s 3) (s 4) (s 5) h Q) : bwp P C ref05_way.I (Try.f32.body.getD .skip) (retB P ref05_way.I Try.f32.results.toList Q) s h :=
  eS hC (fun s h => B.pv (V.lenSl (s 0)) fun v23 =>
    0 < 1 ∧ B.mks h 8 (some [.int .i64 0]) v23 v23 fun v24 h =>
    ref05_way.k14 C N Q (s 0) (s 1) (s 2) (s 3) (s 4) (s 5) v24 h) (e1 hR) (fun s h hR => eS hC (fun s h => ref05_way.k14 C N Q (s 0) (s 1) (s 2) (s 3) (s 4) (s 5) (s 13) h) (e1 hR) (fun s h hR => eS hC (fun s h => LoopR (ref05_way.l13 C N Q (s 0) (s 1) (s 2) (s 3) (s 4) (s 5) (s 13) (s 14)) [(.int .i64 0)] h) (e1 hR) (fun s h hR => eS hC (fun s h => LoopR (ref05_way.l11 C N Q (s 0) (s 1) (s 2) (s 3) (s 4) (s 5) (s 13) (s 14)) [(.int .i64 0)] h) (eS hC (fun s h => LoopR (ref05_way.l13 C N Q (s 0) (s 1) (s 2) (s 3) (s 4) (s 5) (s 13) (s 14)) [(s 15)] h) (e1 hR) (fun s h hR => eK (eL hC [0, 1, 2, 3, 4, 5, 13, 14] [15] (fun kv lv h Y5 => match kv with | [v0, v1, v2, v3, v4, v5, v13, v14] => ref05_way.l13 C N Q v0 v1 v2 v3 v4 v5 v13 v14 lv h Y5 | _ => False) hR (fun Y5 s h hR => e1 hR)))) (fun s h hR => eS hC (fun s h => B.pv (V.idxS 1 (s 14) (s 4)) fun v48 =>
    B.st h v48 (.int .i64 (-1)) fun h =>
    ref05_way.k9 C N Q (s 0) (s 1) (s 2) (s 3) (s 4) (s 5) (s 13) (s 14) h) (eS hC (fun s h => LoopR (ref05_way.l11 C N Q (s 0) (s 1) (s 2) (s 3) (s 4) (s 5) (s 13) (s 14)) [(s 16)] h) (e1 hR) (fun s h hR => eK (eL hC [0, 1, 2, 3, 4, 5, 13, 14] [16] (fun kv lv h Y4 => match kv with | [v0, v1, v2, v3, v4, v5, v13, v14] => ref05_way.l11 C N Q v0 v1 v2 v3 v4 v5 v13 v14 lv h Y4 | _ => False) hR (fun Y4 s h hR => e1 hR)))) (fun s h hR => eS hC (fun s h => ref05_way.k9 C N Q (s 0) (s 1) (s 2) (s 3) (s 4) (s 5) (s 13) (s 14) h) (e1 hR) (fun s h hR => eS hC (fun s h => LoopR (ref05_way.l8 C N Q (s 0) (s 1) (s 2) (s 3) (s 5) (s 13) (s 14)) [(s 17), (.int .i64 0)] h) (e1 hR) (fun s h hR => eS hC (fun s h => Q (.int .i64 0) h) (eS hC (fun s h => LoopR (ref05_way.l8 C N Q (s 0) (s 1) (s 2) (s 3) (s 5) (s 13) (s 14)) [(s 17), (s 18)] h) (e1 hR) (fun s h hR => eK (eL hC [0, 1, 2, 3, 5, 13, 14] [17, 18] (fun kv lv h Y1 => match kv with | [v0, v1, v2, v3, v5, v13, v14] => ref05_way.l8 C N Q v0 v1 v2 v3 v5 v13 v14 lv h Y1 | _ => False) hR (fun Y1 s h hR => eS hC (fun s h => B.pv (V.idxS 1 (s 17) (s 18)) fun v59 =>
    B.ld h v59 fun v60 =>
    LoopR (ref05_way.l6 C N Q Y1 (s 0) (s 1) (s 2) (s 3) (s 5) (s 13) (s 14) (s 18) v60) [(s 17), (.int .i64 0)] h) (e1 hR) (fun s h hR => eS hC (fun s h => B.pv (V.bin .add (s 18) (.int .i64 1)) fun v56 =>
    Y1 [(s 17), v56] h) (eK (eS hC (fun s h => LoopR (ref05_way.l6 C N Q Y1 (s 0) (s 1) (s 2) (s 3) (s 5) (s 13) (s 14) (s 18) (s 19)) [(s 17), (.int .i64 0)] h) (e1 hR) (fun s h hR => eS hC (fun s h => LoopR (ref05_way.l6 C N Q Y1 (s 0) (s 1) (s 2) (s 3) (s 5) (s 13) (s 14) (s 18) (s 19)) [(s 17), (s 20)] h) (e1 hR) (fun s h hR => eK (eL hC [0, 1, 2, 3, 5, 13, 14, 18, 19] [17, 20] (fun kv lv h Y2 => match kv with | [v0, v1, v2, v3, v5, v13, v14, v18, v19] => ref05_way.l6 C N Q Y1 v0 v1 v2 v3 v5 v13 v14 v18 v19 lv h Y2 | _ => False) hR (fun Y2 s h hR => eS hC (fun s h => ref05_way.k4 C N Q Y1 Y2 (s 0) (s 1) (s 2) (s 3) (s 5) (s 13) (s 14) (s 17) (s 18) (s 19) (s 20) h) (e1 hR) (fun s h hR => eS hC (fun s h => B.pv (V.bin .add (s 20) (.int .i64 1)) fun v66 =>
    Y2 [(s 17), v66] h) (eK (eS hC (fun s h => B.pv (V.idxS 1 (s 13) (s 20)) fun v87 =>
    B.st h v87 (s 19) fun h =>
    ref05_way.k3 C N Q Y1 Y2 (s 0) (s 1) (s 2) (s 3) (s 5) (s 13) (s 14) (s 17) (s 18) (s 19) (s 20) h) (e1 hR) (fun s h hR => eS hC (fun s h => ref05_way.k3 C N Q Y1 Y2 (s 0) (s 1) (s 2) (s 3) (s 5) (s 13) (s 14) (s 17) (s 18) (s 19) (s 20) h) (e1 hR) (fun s h hR => eS hC (fun s h => LoopR (ref05_way.l2 C N Q Y1 Y2 (s 0) (s 1) (s 2) (s 3) (s 5) (s 13) (s 14) (s 18) (s 19) (s 20)) [(s 17), (.int .i64 0)] h) (e1 hR) (fun s h hR => eS hC (fun s h => LoopR (ref05_way.l2 C N Q Y1 Y2 (s 0) (s 1) (s 2) (s 3) (s 5) (s 13) (s 14) (s 18) (s 19) (s 20)) [(s 17), (s 21)] h) (e1 hR) (fun s h hR => eK (eL hC [0, 1, 2, 3, 5, 13, 14, 18, 19, 20] [17, 21] (fun kv lv h Y3 => match kv with | [v0, v1, v2, v3, v5, v13, v14, v18, v19, v20] => ref05_way.l2 C N Q Y1 Y2 v0 v1 v2 v3 v5 v13 v14 v18 v19 v20 lv h Y3 | _ => False) hR (fun Y3 s h hR => e1 hR)))))))) (fun s h hR => e1 hR)))))))) (fun s h hR => e1 hR)))))) (fun s h hR => e1 hR))))))))
theorem ref05_way.imp : ref05_way.Imp (AC P) N := fun v0 v1 v2 v3 v4 v5 h Q hR => eF mixed (fn := Try.f32) (fun hC => ref05_way.L hC (dn Q) (startS [v0, v1, v2, v3, v4, v5]) h hR)

def kit_markLot.I : Bx := ⟨[4], [], 9, []⟩
theorem kit_markLot.L {C : CSem} (hC : CMono C) (Q : AVal → AHeap → Prop) (s : Slots) (h : AHeap) (hR : kit_markLot.cps C N (s 0) (s 1) h Q) : bwp P C kit_markLot.I (Try.f33.body.getD .skip) (retB P kit_markLot.I Try.f33.results.toList Q) s h :=
  e1 hR
theorem kit_markLot.imp : kit_markLot.Imp (AC P) N := fun v0 v1 h Q hR => eF mixed (fn := Try.f33) (fun hC => kit_markLot.L hC (dn Q) (startS [v0, v1]) h hR)

def kit_markWant.I : Bx := ⟨[4], [], 9, []⟩
theorem kit_markWant.L {C : CSem} (hC : CMono C) (Q : AVal → AHeap → Prop) (s : Slots) (h : AHeap) (hR : kit_markWant.cps C N (s 0) (s 1) h Q) : bwp P C kit_markWant.I (Try.f34.body.getD .skip) (retB P kit_markWant.I Try.f34.results.toList Q) s h :=
  e1 hR
theorem kit_markWant.imp : kit_markWant.Imp (AC P) N := fun v0 v1 h Q hR => eF mixed (fn := Try.f34) (fun hC => kit_markWant.L hC (dn Q) (startS [v0, v1]) h hR)

def ref05_Serves.I : Bx := ⟨[2, 3], [5, 7, 11, 13], 17, []⟩
theorem ref05_Serves.L {C : CSem} (hC : CMono C) (Q : AVal → AHeap → Prop) (s : Slots) (h : AHeap) (hR : ref05_Serves.cps C N (s 0) (s 1) h Q) : bwp P C ref05_Serves.I (Try.f35.body.getD .skip) (retB P ref05_Serves.I Try.f35.results.toList Q) s h :=
  e1 hR
theorem ref05_Serves.imp : ref05_Serves.Imp (AC P) N := fun v0 v1 h Q hR => eF mixed (fn := Try.f35) (fun hC => ref05_Serves.L hC (dn Q) (startS [v0, v1]) h hR)

def ref04_Compare.I : Bx := ⟨[2, 3], [6, 7, 9, 10, 14, 15, 17, 18, 22, 24, 28, 30], 33, []⟩
theorem ref04_Compare.L {C : CSem} (hC : CMono C) (Q : AVal → AHeap → Prop) (s : Slots) (h : AHeap) (hR : ref04_Compare.cps C N (s 0) (s 1) h Q) : bwp P C ref04_Compare.I (Try.f36.body.getD .skip) (retB P ref04_Compare.I Try.f36.results.toList Q) s h :=
  e1 hR
theorem ref04_Compare.imp : ref04_Compare.Imp (AC P) N := fun v0 v1 h Q hR => eF mixed (fn := Try.f36) (fun hC => ref04_Compare.L hC (dn Q) (startS [v0, v1]) h hR)

def flow_together.I : Bx := ⟨[7], [28, 33], 39, []⟩
theorem flow_together.L {C : CSem} (hC : CMono C) (Q : AVal → AHeap → Prop) (s : Slots) (h : AHeap) (hR : flow_together.cps C N (s 0) (s 1) h Q) : bwp P C flow_together.I (Try.f38.body.getD .skip) (retB P flow_together.I Try.f38.results.toList Q) s h :=
  eS hC (fun s h => flow_together.k3 C N Q (s 0) (s 1) h) (e1 hR) (fun s h hR => eS hC (fun s h => B.newMap h fun v16 h =>
    B.pv (V.lenSl (s 0)) fun v18 =>
    LoopR (flow_together.l2 C N Q (s 1) v16 (s 0) v18) [(.int .i64 0)] h) (e1 hR) (fun s h hR => eS hC (fun s h => B.pv (V.lenSl (s 0)) fun v18 =>
    LoopR (flow_together.l2 C N Q (s 1) (s 5) (s 0) v18) [(.int .i64 0)] h) (e1 hR) (fun s h hR => eS hC (fun s h => B.call C (N 237) [(s 1), (.fn (N 243) [] [])] h fun v37 h =>
    B.pv (V.un .not v37) fun v38 =>
    Q v38 h) (eS hC (fun s h => LoopR (flow_together.l2 C N Q (s 1) (s 5) (s 17) (s 18)) [(s 19)] h) (e1 hR) (fun s h hR => eK (eL hC [1, 5, 17, 18] [19] (fun kv lv h Y1 => match kv with | [v1, v5, v17, v18] => flow_together.l2 C N Q v1 v5 v17 v18 lv h Y1 | _ => False) hR (fun Y1 s h hR => e1 hR)))) (fun s h hR => e1 hR))))
theorem flow_together.imp : flow_together.Imp (AC P) N := fun v0 v1 h Q hR => eF mixed (fn := Try.f38) (fun hC => flow_together.L hC (dn Q) (startS [v0, v1]) h hR)

def slices_ContainsFunc_api_Want_api_Want.I : Bx := ⟨[], [], 9, []⟩
theorem slices_ContainsFunc_api_Want_api_Want.L {C : CSem} (hC : CMono C) (Q : AVal → AHeap → Prop) (s : Slots) (h : AHeap) (hR : slices_ContainsFunc_api_Want_api_Want.cps C N (s 0) (s 1) h Q) : bwp P C slices_ContainsFunc_api_Want_api_Want.I (Try.f40.body.getD .skip) (retB P slices_ContainsFunc_api_Want_api_Want.I Try.f40.results.toList Q) s h :=
  e1 hR
theorem slices_ContainsFunc_api_Want_api_Want.imp : slices_ContainsFunc_api_Want_api_Want.Imp (AC P) N := fun v0 v1 h Q hR => eF mixed (fn := Try.f40) (fun hC => slices_ContainsFunc_api_Want_api_Want.L hC (dn Q) (startS [v0, v1]) h hR)

def window_Right.I : Bx := ⟨[1], [3, 7, 9, 14], 18, []⟩
theorem window_Right.L {C : CSem} (hC : CMono C) (Q : AVal → AHeap → Prop) (s : Slots) (h : AHeap) (hR : window_Right.cps C N (s 0) h Q) : bwp P C window_Right.I (Try.f42.body.getD .skip) (retB P window_Right.I Try.f42.results.toList Q) s h :=
  e1 hR
theorem window_Right.imp : window_Right.Imp (AC P) N := fun v0 h Q hR => eF mixed (fn := Try.f42) (fun hC => window_Right.L hC (dn Q) (startS [v0]) h hR)

def lot_Sort.I : Bx := ⟨[], [], 9, []⟩
theorem lot_Sort.L {C : CSem} (hC : CMono C) (Q : AVal → AHeap → Prop) (s : Slots) (h : AHeap) (hR : lot_Sort.cps C N (s 0) h Q) : bwp P C lot_Sort.I (Try.f43.body.getD .skip) (retB P lot_Sort.I Try.f43.results.toList Q) s h :=
  e1 hR
theorem lot_Sort.imp : lot_Sort.Imp (AC P) N := fun v0 h Q hR => eF mixed (fn := Try.f43) (fun hC => lot_Sort.L hC (dn Q) (startS [v0]) h hR)

def flow_days.I : Bx := ⟨[], [], 22, []⟩
theorem flow_days.L {C : CSem} (hC : CMono C) (Q : AVal → AHeap → Prop) (s : Slots) (h : AHeap) (hR : flow_days.cps C N (s 0) h Q) : bwp P C flow_days.I (Try.f44.body.getD .skip) (retB P flow_days.I Try.f44.results.toList Q) s h :=
  eS hC (fun s h => flow_days.k3 C N Q (s 1) h) (e1 hR) (fun s h hR => eS hC (fun s h => B.pv (V.lenSl (s 3)) fun v9 =>
    LoopR (flow_days.l2 C N Q (s 1) (s 3) v9) [(.int .i64 0)] h) (e1 hR) (fun s h hR => eS hC (fun s h => B.call C (N 246) [(s 3), (.fn (N 245) [] [(s 1)])] h fun v20 h =>
    Q (s 3) h) (eS hC (fun s h => LoopR (flow_days.l2 C N Q (s 1) (s 3) (s 9)) [(s 10)] h) (e1 hR) (fun s h hR => eK (eL hC [1, 3, 9] [10] (fun kv lv h Y1 => match kv with | [v1, v3, v9] => flow_days.l2 C N Q v1 v3 v9 lv h Y1 | _ => False) hR (fun Y1 s h hR => e1 hR)))) (fun s h hR => e1 hR)))
theorem flow_days.imp : flow_days.Imp (AC P) N := fun v0 h Q hR => eF mixed (fn := Try.f44) (fun hC => flow_days.L hC (dn Q) (startS [v0]) h hR)

def ref04_Right.I : Bx := ⟨[1], [3, 7, 12, 13, 18, 19, 21, 22, 27, 28, 33, 38], 42, []⟩
theorem ref04_Right.L {C : CSem} (hC : CMono C) (Q : AVal → AHeap → Prop) (s : Slots) (h : AHeap) (hR : ref04_Right.cps C N (s 0) h Q) : bwp P C ref04_Right.I (Try.f45.body.getD .skip) (retB P ref04_Right.I Try.f45.results.toList Q) s h :=
  e1 hR
theorem ref04_Right.imp : ref04_Right.Imp (AC P) N := fun v0 h Q hR => eF mixed (fn := Try.f45) (fun hC => ref04_Right.L hC (dn Q) (startS [v0]) h hR)

def ref05_Right.I : Bx := ⟨[1], [3, 7, 12, 17, 22], 26, []⟩
theorem ref05_Right.L {C : CSem} (hC : CMono C) (Q : AVal → AHeap → Prop) (s : Slots) (h : AHeap) (hR : ref05_Right.cps C N (s 0) h Q) : bwp P C ref05_Right.I (Try.f46.body.getD .skip) (retB P ref05_Right.I Try.f46.results.toList Q) s h :=
  e1 hR
theorem ref05_Right.imp : ref05_Right.Imp (AC P) N := fun v0 h Q hR => eF mixed (fn := Try.f46) (fun hC => ref05_Right.L hC (dn Q) (startS [v0]) h hR)

def ref05_along.I : Bx := ⟨[], [], 109, [(10, [(0, []), (1, []), (2, []), (3, []), (4, []), (5, []), (6, []), (7, []), (8, []), (9, []), (10, []), (11, []), (12, []), (13, []), (14, []), (15, [])]), (13, [(0, []), (1, []), (2, []), (3, []), (4, []), (5, []), (6, []), (7, []), (8, []), (9, []), (10, []), (11, []), (12, []), (13, []), (14, []), (15, []), (16, []), (17, []), (18, []), (19, []), (20, []), (21, [])])]⟩
theorem ref05_along.L {C : CSem} (hC : CMono C) (Q : AVal → AHeap → Prop) (s : Slots) (h : AHeap) (hR : ref05_along.cps C N (s 0) (s 1) (s 2) (s 3) (s 4) (s 5) h Q) : bwp P C ref05_along.I (Try.f47.body.getD .skip) (retB P ref05_along.I Try.f47.results.toList Q) s h :=
  eS hC (fun s h => B.pv (V.idxS 1 (s 1) (s 4)) fun v20 =>
    B.ld h v20 fun v21 =>
    B.pv (V.min2 (s 5) v21) fun v22 =>
    LoopR (ref05_along.l5 C N Q (s 0) (s 1) (s 2) (s 3) (s 4)) [v22, (s 4)] h) (e1 hR) (fun s h hR => eS hC (fun s h => LoopR (ref05_along.l5 C N Q (s 0) (s 1) (s 2) (s 3) (s 4)) [(s 13), (s 4)] h) (e1 hR) (fun s h hR => eS hC (fun s h => LoopR (ref05_along.l5 C N Q (s 0) (s 1) (s 2) (s 3) (s 4)) [(s 13), (s 14)] h) (e1 hR) (fun s h hR => eS hC (fun s h => ref05_along.k3 C N Q (s 0) (s 1) (s 2) (s 3) (s 4) (s 13) h) (eK (eL hC [0, 1, 2, 3, 4] [13, 14] (fun kv lv h Y2 => match kv with | [v0, v1, v2, v3, v4] => ref05_along.l5 C N Q v0 v1 v2 v3 v4 lv h Y2 | _ => False) hR (fun Y2 s h hR => e1 hR))) (fun s h hR => eS hC (fun s h => LoopR (ref05_along.l2 C N Q (s 0) (s 2) (s 3) (s 13)) [(s 4)] h) (e1 hR) (fun s h hR => eS hC (fun s h => LoopR (ref05_along.l2 C N Q (s 0) (s 2) (s 3) (s 13)) [(s 14)] h) (e1 hR) (fun s h hR => eK (eL hC [0, 2, 3, 13] [14] (fun kv lv h Y1 => match kv with | [v0, v2, v3, v13] => ref05_along.l2 C N Q v0 v2 v3 v13 lv h Y1 | _ => False) hR (fun Y1 s h hR => e1 hR))))))))
theorem ref05_along.imp : ref05_along.Imp (AC P) N := fun v0 v1 v2 v3 v4 v5 h Q hR => eF mixed (fn := Try.f47) (fun hC => ref05_along.L hC (dn Q) (startS [v0, v1, v2, v3, v4, v5]) h hR)

def kit_mark.I : Bx := ⟨[], [], 10, []⟩
theorem kit_mark.L {C : CSem} (hC : CMono C) (Q : AVal → AHeap → Prop) (s : Slots) (h : AHeap) (hR : kit_mark.cps C N (s 0) (s 1) h Q) : bwp P C kit_mark.I (Try.f48.body.getD .skip) (retB P kit_mark.I Try.f48.results.toList Q) s h :=
  e1 hR
theorem kit_mark.imp : kit_mark.Imp (AC P) N := fun v0 v1 h Q hR => eF mixed (fn := Try.f48) (fun hC => kit_mark.L hC (dn Q) (startS [v0, v1]) h hR)

def ref01_Has.I : Bx := ⟨[2], [9, 15], 19, []⟩
theorem ref01_Has.L {C : CSem} (hC : CMono C) (Q : AVal → AHeap → Prop) (s : Slots) (h : AHeap) (hR : ref01_Has.cps C N (s 0) (s 1) h Q) : bwp P C ref01_Has.I (Try.f49.body.getD .skip) (retB P ref01_Has.I Try.f49.results.toList Q) s h :=
  e1 hR
theorem ref01_Has.imp : ref01_Has.Imp (AC P) N := fun v0 v1 h Q hR => eF mixed (fn := Try.f49) (fun hC => ref01_Has.L hC (dn Q) (startS [v0, v1]) h hR)

def lot_Right.I : Bx := ⟨[1], [3, 7, 12, 17, 18, 20, 21, 26, 31], 35, []⟩
theorem lot_Right.L {C : CSem} (hC : CMono C) (Q : AVal → AHeap → Prop) (s : Slots) (h : AHeap) (hR : lot_Right.cps C N (s 0) h Q) : bwp P C lot_Right.I (Try.f50.body.getD .skip) (retB P lot_Right.I Try.f50.results.toList Q) s h :=
  e1 hR
theorem lot_Right.imp : lot_Right.Imp (AC P) N := fun v0 h Q hR => eF mixed (fn := Try.f50) (fun hC => lot_Right.L hC (dn Q) (startS [v0]) h hR)

def flow_together_1.I : Bx := ⟨[1], [3, 8, 13, 18, 23], 28, []⟩
theorem flow_together_1.L {C : CSem} (hC : CMono C) (Q : AVal → AHeap → Prop) (s : Slots) (h : AHeap) (hR : flow_together_1.cps C N (s 0) h Q) : bwp P C flow_together_1.I (Try.f51.body.getD .skip) (retB P flow_together_1.I Try.f51.results.toList Q) s h :=
  e1 hR
theorem flow_together_1.imp : flow_together_1.Imp (AC P) N := fun v0 h Q hR => eF mixed (fn := Try.f51) (fun hC => flow_together_1.L hC (dn Q) (startS [v0]) h hR)

def code_Right.I : Bx := ⟨[], [], 40, []⟩
theorem code_Right.L {C : CSem} (hC : CMono C) (Q : AVal → AHeap → Prop) (s : Slots) (h : AHeap) (hR : code_Right.cps C N (s 0) h Q) : bwp P C code_Right.I (Try.f52.body.getD .skip) (retB P code_Right.I Try.f52.results.toList Q) s h :=
  eS hC (fun s h => B.rangeStr h (s 0) fun v6 h =>
    LoopR (code_Right.l3 C N Q (s 0) v6) [] h) (e1 hR) (fun s h hR => eS hC (fun s h => code_Right.k1 C N Q (s 0) h) (eS hC (fun s h => LoopR (code_Right.l3 C N Q (s 0) (s 6)) [] h) (e1 hR) (fun s h hR => eK (eL hC [0, 6] [] (fun kv lv h Y1 => match kv with | [v0, v6] => code_Right.l3 C N Q v0 v6 lv h Y1 | _ => False) hR (fun Y1 s h hR => e1 hR)))) (fun s h hR => e1 hR))
theorem code_Right.imp : code_Right.Imp (AC P) N := fun v0 h Q hR => eF mixed (fn := Try.f52) (fun hC => code_Right.L hC (dn Q) (startS [v0]) h hR)

def amount_Right.I : Bx := ⟨[], [], 9, []⟩
theorem amount_Right.L {C : CSem} (hC : CMono C) (Q : AVal → AHeap → Prop) (s : Slots) (h : AHeap) (hR : amount_Right.cps C N (s 0) h Q) : bwp P C amount_Right.I (Try.f53.body.getD .skip) (retB P amount_Right.I Try.f53.results.toList Q) s h :=
  e1 hR
theorem amount_Right.imp : amount_Right.Imp (AC P) N := fun v0 h Q hR => eF mixed (fn := Try.f53) (fun hC => amount_Right.L hC (dn Q) (startS [v0]) h hR)

def slices_IndexFunc_api_Want_api_Want.I : Bx := ⟨[], [], 19, []⟩
theorem slices_IndexFunc_api_Want_api_Want.L {C : CSem} (hC : CMono C) (Q : AVal → AHeap → Prop) (s : Slots) (h : AHeap) (hR : slices_IndexFunc_api_Want_api_Want.cps C N (s 0) (s 1) h Q) : bwp P C slices_IndexFunc_api_Want_api_Want.I (Try.f54.body.getD .skip) (retB P slices_IndexFunc_api_Want_api_Want.I Try.f54.results.toList Q) s h :=
  eS hC (fun s h => B.pv (V.lenSl (s 0)) fun v7 =>
    LoopR (slices_IndexFuncG.l2 C (opsF 3 32 [.str [], .int .i64 0, .int .i64 0] 0 []) Q (s 0) (s 1) v7) [(.int .i64 0)] h) (e1 hR) (fun s h hR => eS hC (fun s h => Q (.int .i64 (-1)) h) (eS hC (fun s h => LoopR (slices_IndexFuncG.l2 C (opsF 3 32 [.str [], .int .i64 0, .int .i64 0] 0 []) Q (s 0) (s 1) (s 7)) [(s 8)] h) (e1 hR) (fun s h hR => eK (eL hC [0, 1, 7] [8] (fun kv lv h Y1 => match kv with | [v0, v1, v7] => slices_IndexFuncG.l2 C (opsF 3 32 [.str [], .int .i64 0, .int .i64 0] 0 []) Q v0 v1 v7 lv h Y1 | _ => False) hR (fun Y1 s h hR => e1 hR)))) (fun s h hR => e1 hR))
theorem slices_IndexFunc_api_Want_api_Want.imp : slices_IndexFunc_api_Want_api_Want.Imp (AC P) N := fun v0 v1 h Q hR => eF mixed (fn := Try.f54) (fun hC => slices_IndexFunc_api_Want_api_Want.L hC (dn Q) (startS [v0, v1]) h hR)

def slices_Clone_api_Lot_api_Lot.I : Bx := ⟨[], [], 8, []⟩
theorem slices_Clone_api_Lot_api_Lot.L {C : CSem} (hC : CMono C) (Q : AVal → AHeap → Prop) (s : Slots) (h : AHeap) (hR : slices_Clone_api_Lot_api_Lot.cps C N (s 0) h Q) : bwp P C slices_Clone_api_Lot_api_Lot.I (Try.f55.body.getD .skip) (retB P slices_Clone_api_Lot_api_Lot.I Try.f55.results.toList Q) s h :=
  e1 hR
theorem slices_Clone_api_Lot_api_Lot.imp : slices_Clone_api_Lot_api_Lot.Imp (AC P) N := fun v0 h Q hR => eF mixed (fn := Try.f55) (fun hC => slices_Clone_api_Lot_api_Lot.L hC (dn Q) (startS [v0]) h hR)

def slices_SortStableFunc_api_Lot_api_Lot.I : Bx := ⟨[], [], 9, []⟩
theorem slices_SortStableFunc_api_Lot_api_Lot.L {C : CSem} (hC : CMono C) (Q : AVal → AHeap → Prop) (s : Slots) (h : AHeap) (hR : slices_SortStableFunc_api_Lot_api_Lot.cps C N (s 0) (s 1) h Q) : bwp P C slices_SortStableFunc_api_Lot_api_Lot.I (Try.f56.body.getD .skip) (retB P slices_SortStableFunc_api_Lot_api_Lot.I Try.f56.results.toList Q) s h :=
  e1 hR
theorem slices_SortStableFunc_api_Lot_api_Lot.imp : slices_SortStableFunc_api_Lot_api_Lot.Imp (AC P) N := fun v0 v1 h Q hR => eF mixed (fn := Try.f56) (fun hC => slices_SortStableFunc_api_Lot_api_Lot.L hC (dn Q) (startS [v0, v1]) h hR)

def lot_Compare.I : Bx := ⟨[2, 3], [5, 6, 8, 9, 12, 14], 19, [(1, [(0, []), (1, []), (2, []), (3, []), (4, []), (5, []), (7, []), (8, []), (9, []), (10, []), (6, [8, 10]), (11, []), (12, []), (13, []), (14, [])])]⟩
theorem lot_Compare.L {C : CSem} (hC : CMono C) (Q : AVal → AHeap → Prop) (s : Slots) (h : AHeap) (hR : lot_Compare.cps C N (s 0) (s 1) h Q) : bwp P C lot_Compare.I (Try.f57.body.getD .skip) (retB P lot_Compare.I Try.f57.results.toList Q) s h :=
  e1 hR
theorem lot_Compare.imp : lot_Compare.Imp (AC P) N := fun v0 v1 h Q hR => eF mixed (fn := Try.f57) (fun hC => lot_Compare.L hC (dn Q) (startS [v0, v1]) h hR)

def slices_SortStableFunc_int_int.I : Bx := ⟨[], [], 9, []⟩
theorem slices_SortStableFunc_int_int.L {C : CSem} (hC : CMono C) (Q : AVal → AHeap → Prop) (s : Slots) (h : AHeap) (hR : slices_SortStableFunc_int_int.cps C N (s 0) (s 1) h Q) : bwp P C slices_SortStableFunc_int_int.I (Try.f58.body.getD .skip) (retB P slices_SortStableFunc_int_int.I Try.f58.results.toList Q) s h :=
  e1 hR
theorem slices_SortStableFunc_int_int.imp : slices_SortStableFunc_int_int.Imp (AC P) N := fun v0 v1 h Q hR => eF mixed (fn := Try.f58) (fun hC => slices_SortStableFunc_int_int.L hC (dn Q) (startS [v0, v1]) h hR)

def flow_days_1.I : Bx := ⟨[], [], 17, [(1, [(0, []), (1, []), (2, []), (3, []), (4, []), (5, []), (6, []), (7, []), (8, []), (9, []), (10, []), (11, [])])]⟩
theorem flow_days_1.L {C : CSem} (hC : CMono C) (Q : AVal → AHeap → Prop) (s : Slots) (h : AHeap) (hR : flow_days_1.cps C N (s 0) (s 1) (s 2) h Q) : bwp P C flow_days_1.I (Try.f59.body.getD .skip) (retB P flow_days_1.I Try.f59.results.toList Q) s h :=
  e1 hR
theorem flow_days_1.imp : flow_days_1.Imp (AC P) N := fun v0 v1 v2 h Q hR => eF mixed (fn := Try.f59) (fun hC => flow_days_1.L hC (dn Q) (startS [v0, v1, v2]) h hR)

def ref03_Right.I : Bx := ⟨[], [], 56, []⟩
theorem ref03_Right.L {C : CSem} (hC : CMono C) (Q : AVal → AHeap → Prop) (s : Slots) (h : AHeap) (hR : ref03_Right.cps C N (s 0) h Q) : bwp P C ref03_Right.I (Try.f60.body.getD .skip) (retB P ref03_Right.I Try.f60.results.toList Q) s h :=
  eS hC (fun s h => ref03_Right.k3 C N Q (s 0) h) (e1 hR) (fun s h hR => eS hC (fun s h => LoopR (ref03_Right.l2 C N Q (s 0)) [(.int .i64 0)] h) (e1 hR) (fun s h hR => eS hC (fun s h => Q (.bool true) h) (eS hC (fun s h => LoopR (ref03_Right.l2 C N Q (s 0)) [(s 3)] h) (e1 hR) (fun s h hR => eK (eL hC [0] [3] (fun kv lv h Y1 => match kv with | [v0] => ref03_Right.l2 C N Q v0 lv h Y1 | _ => False) hR (fun Y1 s h hR => e1 hR)))) (fun s h hR => e1 hR)))
theorem ref03_Right.imp : ref03_Right.Imp (AC P) N := fun v0 h Q hR => eF mixed (fn := Try.f60) (fun hC => ref03_Right.L hC (dn Q) (startS [v0]) h hR)

def ref01_Right.I : Bx := ⟨[1], [3, 7, 9, 14], 18, []⟩
theorem ref01_Right.L {C : CSem} (hC : CMono C) (Q : AVal → AHeap → Prop) (s : Slots) (h : AHeap) (hR : ref01_Right.cps C N (s 0) h Q) : bwp P C ref01_Right.I (Try.f61.body.getD .skip) (retB P ref01_Right.I Try.f61.results.toList Q) s h :=
  e1 hR
theorem ref01_Right.imp : ref01_Right.Imp (AC P) N := fun v0 h Q hR => eF mixed (fn := Try.f61) (fun hC => ref01_Right.L hC (dn Q) (startS [v0]) h hR)

def slices_stableCmpFunc_api_Lot.I : Bx := ⟨[], [], 63, []⟩
theorem slices_stableCmpFunc_api_Lot.L {C : CSem} (hC : CMono C) (Q : AVal → AHeap → Prop) (s : Slots) (h : AHeap) (hR : slices_stableCmpFunc_api_Lot.cps C N (s 0) (s 1) (s 2) h Q) : bwp P C slices_stableCmpFunc_api_Lot.I (Try.f62.body.getD .skip) (retB P slices_stableCmpFunc_api_Lot.I Try.f62.results.toList Q) s h :=
  eS hC (fun s h => LoopR (slices_stableCmpFuncG.l7 C (opsF 6 56 [.int .i64 0, .str [], .int .i64 0, .int .i64 0, .int .i64 0, .bool false] 0 []) (N 167) (N 168) Q (s 0) (s 1) (s 2) (s 6)) [(.int .i64 0), (s 6)] h) (e1 hR) (fun s h hR => eS hC (fun s h => LoopR (slices_stableCmpFuncG.l7 C (opsF 6 56 [.int .i64 0, .str [], .int .i64 0, .int .i64 0, .int .i64 0, .bool false] 0 []) (N 167) (N 168) Q (s 0) (s 1) (s 2) (s 6)) [(s 7), (s 8)] h) (e1 hR) (fun s h hR => eS hC (fun s h => B.call C (N 168) [(s 0), (s 7), (s 1), (s 2)] h fun v27 h =>
    LoopR (slices_stableCmpFuncG.l5 C (opsF 6 56 [.int .i64 0, .str [], .int .i64 0, .int .i64 0, .int .i64 0, .bool false] 0 []) (N 167) (N 168) Q (s 0) (s 1) (s 2)) [(s 6)] h) (eK (eL hC [0, 1, 2, 6] [7, 8] (fun kv lv h Y3 => match kv with | [v0, v1, v2, v6] => slices_stableCmpFuncG.l7 C (opsF 6 56 [.int .i64 0, .str [], .int .i64 0, .int .i64 0, .int .i64 0, .bool false] 0 []) (N 167) (N 168) Q v0 v1 v2 v6 lv h Y3 | _ => False) hR (fun Y3 s h hR => e1 hR))) (fun s h hR => eS hC (fun s h => LoopR (slices_stableCmpFuncG.l5 C (opsF 6 56 [.int .i64 0, .str [], .int .i64 0, .int .i64 0, .int .i64 0, .bool false] 0 []) (N 167) (N 168) Q (s 0) (s 1) (s 2)) [(s 6)] h) (e1 hR) (fun s h hR => eK (eL hC [0, 1, 2] [6] (fun kv lv h Y1 => match kv with | [v0, v1, v2] => slices_stableCmpFuncG.l5 C (opsF 6 56 [.int .i64 0, .str [], .int .i64 0, .int .i64 0, .int .i64 0, .bool false] 0 []) (N 167) (N 168) Q v0 v1 v2 lv h Y1 | _ => False) hR (fun Y1 s h hR => eS hC (fun s h => B.pv (V.bin .mul (.int .i64 2) (s 6)) fun v32 =>
    LoopR (slices_stableCmpFuncG.l3 C (opsF 6 56 [.int .i64 0, .str [], .int .i64 0, .int .i64 0, .int .i64 0, .bool false] 0 []) (N 167) (N 168) Q Y1 (s 0) (s 1) (s 2) (s 6)) [(.int .i64 0), v32] h) (e1 hR) (fun s h hR => eK (eS hC (fun s h => LoopR (slices_stableCmpFuncG.l3 C (opsF 6 56 [.int .i64 0, .str [], .int .i64 0, .int .i64 0, .int .i64 0, .bool false] 0 []) (N 167) (N 168) Q Y1 (s 0) (s 1) (s 2) (s 6)) [(s 7), (s 8)] h) (e1 hR) (fun s h hR => eS hC (fun s h => slices_stableCmpFuncG.k1 C (opsF 6 56 [.int .i64 0, .str [], .int .i64 0, .int .i64 0, .int .i64 0, .bool false] 0 []) (N 167) (N 168) Q Y1 (s 0) (s 1) (s 2) (s 6) (s 7) h) (eK (eL hC [0, 1, 2, 6] [7, 8] (fun kv lv h Y2 => match kv with | [v0, v1, v2, v6] => slices_stableCmpFuncG.l3 C (opsF 6 56 [.int .i64 0, .str [], .int .i64 0, .int .i64 0, .int .i64 0, .bool false] 0 []) (N 167) (N 168) Q Y1 v0 v1 v2 v6 lv h Y2 | _ => False) hR (fun Y2 s h hR => e1 hR))) (fun s h hR => e1 hR))))))))))
theorem slices_stableCmpFunc_api_Lot.imp : slices_stableCmpFunc_api_Lot.Imp (AC P) N := fun v0 v1 v2 h Q hR => eF mixed (fn := Try.f62) (fun hC => slices_stableCmpFunc_api_Lot.L hC (dn Q) (startS [v0, v1, v2]) h hR)

def cmp_Or_int.I : Bx := ⟨[], [], 18, []⟩
theorem cmp_Or_int.L {C : CSem} (hC : CMono C) (Q : AVal → AHeap → Prop) (s : Slots) (h : AHeap) (hR : cmp_Or_int.cps C N (s 0) h Q) : bwp P C cmp_Or_int.I (Try.f63.body.getD .skip) (retB P cmp_Or_int.I Try.f63.results.toList Q) s h :=
  eS hC (fun s h => B.pv (V.lenSl (s 0)) fun v7 =>
    LoopR (cmp_Or_int.l2 C N Q (.int .i64 0) (s 0) v7) [(.int .i64 0)] h) (e1 hR) (fun s h hR => eS hC (fun s h => B.pv (V.lenSl (s 0)) fun v7 =>
    LoopR (cmp_Or_int.l2 C N Q (s 3) (s 0) v7) [(.int .i64 0)] h) (e1 hR) (fun s h hR => eS hC (fun s h => Q (s 3) h) (eS hC (fun s h => LoopR (cmp_Or_int.l2 C N Q (s 3) (s 6) (s 7)) [(s 8)] h) (e1 hR) (fun s h hR => eK (eL hC [3, 6, 7] [8] (fun kv lv h Y1 => match kv with | [v3, v6, v7] => cmp_Or_int.l2 C N Q v3 v6 v7 lv h Y1 | _ => False) hR (fun Y1 s h hR => e1 hR)))) (fun s h hR => e1 hR)))
theorem cmp_Or_int.imp : cmp_Or_int.Imp (AC P) N := fun v0 h Q hR => eF mixed (fn := Try.f63) (fun hC => cmp_Or_int.L hC (dn Q) (startS [v0]) h hR)

def cmp_Compare_int.I : Bx := ⟨[], [], 20, []⟩
theorem cmp_Compare_int.L {C : CSem} (hC : CMono C) (Q : AVal → AHeap → Prop) (s : Slots) (h : AHeap) (hR : cmp_Compare_int.cps C N (s 0) (s 1) h Q) : bwp P C cmp_Compare_int.I (Try.f64.body.getD .skip) (retB P cmp_Compare_int.I Try.f64.results.toList Q) s h :=
  e1 hR
theorem cmp_Compare_int.imp : cmp_Compare_int.Imp (AC P) N := fun v0 v1 h Q hR => eF mixed (fn := Try.f64) (fun hC => cmp_Compare_int.L hC (dn Q) (startS [v0, v1]) h hR)

def slices_stableCmpFunc_int.I : Bx := ⟨[], [], 63, []⟩
theorem slices_stableCmpFunc_int.L {C : CSem} (hC : CMono C) (Q : AVal → AHeap → Prop) (s : Slots) (h : AHeap) (hR : slices_stableCmpFunc_int.cps C N (s 0) (s 1) (s 2) h Q) : bwp P C slices_stableCmpFunc_int.I (Try.f65.body.getD .skip) (retB P slices_stableCmpFunc_int.I Try.f65.results.toList Q) s h :=
  eS hC (fun s h => LoopR (slices_stableCmpFuncG.l7 C (opsS 8 (.int .i64 0) 0) (N 249) (N 250) Q (s 0) (s 1) (s 2) (s 6)) [(.int .i64 0), (s 6)] h) (e1 hR) (fun s h hR => eS hC (fun s h => LoopR (slices_stableCmpFuncG.l7 C (opsS 8 (.int .i64 0) 0) (N 249) (N 250) Q (s 0) (s 1) (s 2) (s 6)) [(s 7), (s 8)] h) (e1 hR) (fun s h hR => eS hC (fun s h => B.call C (N 250) [(s 0), (s 7), (s 1), (s 2)] h fun v27 h =>
    LoopR (slices_stableCmpFuncG.l5 C (opsS 8 (.int .i64 0) 0) (N 249) (N 250) Q (s 0) (s 1) (s 2)) [(s 6)] h) (eK (eL hC [0, 1, 2, 6] [7, 8] (fun kv lv h Y3 => match kv with | [v0, v1, v2, v6] => slices_stableCmpFuncG.l7 C (opsS 8 (.int .i64 0) 0) (N 249) (N 250) Q v0 v1 v2 v6 lv h Y3 | _ => False) hR (fun Y3 s h hR => e1 hR))) (fun s h hR => eS hC (fun s h => LoopR (slices_stableCmpFuncG.l5 C (opsS 8 (.int .i64 0) 0) (N 249) (N 250) Q (s 0) (s 1) (s 2)) [(s 6)] h) (e1 hR) (fun s h hR => eK (eL hC [0, 1, 2] [6] (fun kv lv h Y1 => match kv with | [v0, v1, v2] => slices_stableCmpFuncG.l5 C (opsS 8 (.int .i64 0) 0) (N 249) (N 250) Q v0 v1 v2 lv h Y1 | _ => False) hR (fun Y1 s h hR => eS hC (fun s h => B.pv (V.bin .mul (.int .i64 2) (s 6)) fun v32 =>
    LoopR (slices_stableCmpFuncG.l3 C (opsS 8 (.int .i64 0) 0) (N 249) (N 250) Q Y1 (s 0) (s 1) (s 2) (s 6)) [(.int .i64 0), v32] h) (e1 hR) (fun s h hR => eK (eS hC (fun s h => LoopR (slices_stableCmpFuncG.l3 C (opsS 8 (.int .i64 0) 0) (N 249) (N 250) Q Y1 (s 0) (s 1) (s 2) (s 6)) [(s 7), (s 8)] h) (e1 hR) (fun s h hR => eS hC (fun s h => slices_stableCmpFuncG.k1 C (opsS 8 (.int .i64 0) 0) (N 249) (N 250) Q Y1 (s 0) (s 1) (s 2) (s 6) (s 7) h) (eK (eL hC [0, 1, 2, 6] [7, 8] (fun kv lv h Y2 => match kv with | [v0, v1, v2, v6] => slices_stableCmpFuncG.l3 C (opsS 8 (.int .i64 0) 0) (N 249) (N 250) Q Y1 v0 v1 v2 v6 lv h Y2 | _ => False) hR (fun Y2 s h hR => e1 hR))) (fun s h hR => e1 hR))))))))))
theorem slices_stableCmpFunc_int.imp : slices_stableCmpFunc_int.Imp (AC P) N := fun v0 v1 v2 h Q hR => eF mixed (fn := Try.f65) (fun hC => slices_stableCmpFunc_int.L hC (dn Q) (startS [v0, v1, v2]) h hR)

def slices_insertionSortCmpFunc_api_Lot.I : Bx := ⟨[], [], 53, [(4, [(0, []), (1, []), (2, []), (3, []), (4, []), (5, []), (6, []), (7, []), (8, []), (9, []), (10, []), (11, []), (12, []), (13, []), (14, []), (15, []), (16, [])]), (6, [(0, []), (1, []), (2, []), (3, []), (4, []), (5, []), (6, []), (7, []), (8, []), (9, []), (10, []), (11, []), (12, []), (13, []), (14, []), (15, []), (16, []), (17, [])])]⟩
theorem slices_insertionSortCmpFunc_api_Lot.L {C : CSem} (hC : CMono C) (Q : AVal → AHeap → Prop) (s : Slots) (h : AHeap) (hR : slices_insertionSortCmpFunc_api_Lot.cps C N (s 0) (s 1) (s 2) (s 3) h Q) : bwp P C slices_insertionSortCmpFunc_api_Lot.I (Try.f66.body.getD .skip) (retB P slices_insertionSortCmpFunc_api_Lot.I Try.f66.results.toList Q) s h :=
  eS hC (fun s h => LoopR (slices_insertionSortCmpFuncG.l3 C (opsF 6 56 [.int .i64 0, .str [], .int .i64 0, .int .i64 0, .int .i64 0, .bool false] 0 []) Q (s 0) (s 1) (s 2) (s 3)) [(s 8)] h) (e1 hR) (fun s h hR => eK (eL hC [0, 1, 2, 3] [8] (fun kv lv h Y1 => match kv with | [v0, v1, v2, v3] => slices_insertionSortCmpFuncG.l3 C (opsF 6 56 [.int .i64 0, .str [], .int .i64 0, .int .i64 0, .int .i64 0, .bool false] 0 []) Q v0 v1 v2 v3 lv h Y1 | _ => False) hR (fun Y1 s h hR => eS hC (fun s h => LoopR (slices_insertionSortCmpFuncG.l2 C (opsF 6 56 [.int .i64 0, .str [], .int .i64 0, .int .i64 0, .int .i64 0, .bool false] 0 []) Q Y1 (s 0) (s 1) (s 2) (s 3) (s 8)) [(s 8)] h) (e1 hR) (fun s h hR => eS hC (fun s h => B.pv (V.bin .add (s 8) (.int .i64 1)) fun v16 =>
    Y1 [v16] h) (eK (eS hC (fun s h => LoopR (slices_insertionSortCmpFuncG.l2 C (opsF 6 56 [.int .i64 0, .str [], .int .i64 0, .int .i64 0, .int .i64 0, .bool false] 0 []) Q Y1 (s 0) (s 1) (s 2) (s 3) (s 8)) [(s 9)] h) (e1 hR) (fun s h hR => eK (eL hC [0, 1, 2, 3, 8] [9] (fun kv lv h Y2 => match kv with | [v0, v1, v2, v3, v8] => slices_insertionSortCmpFuncG.l2 C (opsF 6 56 [.int .i64 0, .str [], .int .i64 0, .int .i64 0, .int .i64 0, .bool false] 0 []) Q Y1 v0 v1 v2 v3 v8 lv h Y2 | _ => False) hR (fun Y2 s h hR => e1 hR))))) (fun s h hR => e1 hR)))))
theorem slices_insertionSortCmpFunc_api_Lot.imp : slices_insertionSortCmpFunc_api_Lot.Imp (AC P) N := fun v0 v1 v2 v3 h Q hR => eF mixed (fn := Try.f66) (fun hC => slices_insertionSortCmpFunc_api_Lot.L hC (dn Q) (startS [v0, v1, v2, v3]) h hR)

def slices_symMergeCmpFunc_api_Lot.I : Bx := ⟨[], [], 220, [(5, [(0, []), (1, []), (2, []), (3, []), (4, []), (5, []), (6, []), (7, []), (8, []), (9, []), (10, [])]), (11, [(0, []), (1, []), (2, []), (3, []), (4, []), (5, []), (6, []), (7, []), (8, []), (9, []), (10, []), (11, []), (12, []), (13, []), (14, []), (15, []), (16, []), (17, [])]), (17, [(0, []), (1, []), (2, []), (3, []), (4, []), (5, []), (6, []), (7, []), (8, []), (9, []), (10, []), (11, [])]), (23, [(0, []), (1, []), (2, []), (3, []), (4, []), (5, []), (6, []), (7, []), (8, []), (9, []), (10, []), (11, []), (12, []), (13, []), (14, []), (15, []), (16, []), (17, [])]), (35, [(0, []), (1, []), (2, []), (3, []), (4, []), (5, []), (6, []), (7, []), (8, []), (9, []), (10, []), (11, []), (12, []), (13, [])])]⟩
theorem slices_symMergeCmpFunc_api_Lot.L {C : CSem} (hC : CMono C) (Q : AVal → AHeap → Prop) (s : Slots) (h : AHeap) (hR : slices_symMergeCmpFunc_api_Lot.cps C N (s 0) (s 1) (s 2) (s 3) (s 4) h Q) : bwp P C slices_symMergeCmpFunc_api_Lot.I (Try.f67.body.getD .skip) (retB P slices_symMergeCmpFunc_api_Lot.I Try.f67.results.toList Q) s h :=
  eS hC (fun s h => slices_symMergeCmpFuncG.k12 C (opsF 6 56 [.int .i64 0, .str [], .int .i64 0, .int .i64 0, .int .i64 0, .bool false] 0 []) (N 167) (N 169) Q (s 0) (s 1) (s 2) (s 3) (s 4) h) (eS hC (fun s h => B.cond (s 28) (LoopR (slices_symMergeCmpFuncG.l16 C (opsF 6 56 [.int .i64 0, .str [], .int .i64 0, .int .i64 0, .int .i64 0, .bool false] 0 []) (N 167) (N 169) Q (s 0) (s 1) (s 4)) [(s 2), (s 3)] h) (slices_symMergeCmpFuncG.k12 C (opsF 6 56 [.int .i64 0, .str [], .int .i64 0, .int .i64 0, .int .i64 0, .bool false] 0 []) (N 167) (N 169) Q (s 0) (s 1) (s 2) (s 3) (s 4) h)) (e1 hR) (fun s h hR => eC 28 hR (fun hR => eS hC (fun s h => LoopR (slices_symMergeCmpFuncG.l16 C (opsF 6 56 [.int .i64 0, .str [], .int .i64 0, .int .i64 0, .int .i64 0, .bool false] 0 []) (N 167) (N 169) Q (s 0) (s 1) (s 4)) [(s 10), (s 3)] h) (e1 hR) (fun s h hR => eS hC (fun s h => LoopR (slices_symMergeCmpFuncG.l16 C (opsF 6 56 [.int .i64 0, .str [], .int .i64 0, .int .i64 0, .int .i64 0, .bool false] 0 []) (N 167) (N 169) Q (s 0) (s 1) (s 4)) [(s 10), (s 11)] h) (e1 hR) (fun s h hR => eS hC (fun s h => LoopR (slices_symMergeCmpFuncG.l14 C (opsF 6 56 [.int .i64 0, .str [], .int .i64 0, .int .i64 0, .int .i64 0, .bool false] 0 []) (N 167) (N 169) Q (s 0) (s 10)) [(s 1)] h) (eK (eL hC [0, 1, 4] [10, 11] (fun kv lv h Y5 => match kv with | [v0, v1, v4] => slices_symMergeCmpFuncG.l16 C (opsF 6 56 [.int .i64 0, .str [], .int .i64 0, .int .i64 0, .int .i64 0, .bool false] 0 []) (N 167) (N 169) Q v0 v1 v4 lv h Y5 | _ => False) hR (fun Y5 s h hR => e1 hR))) (fun s h hR => eS hC (fun s h => Q (.tup []) h) (eS hC (fun s h => LoopR (slices_symMergeCmpFuncG.l14 C (opsF 6 56 [.int .i64 0, .str [], .int .i64 0, .int .i64 0, .int .i64 0, .bool false] 0 []) (N 167) (N 169) Q (s 0) (s 10)) [(s 13)] h) (e1 hR) (fun s h hR => eK (eL hC [0, 10] [13] (fun kv lv h Y4 => match kv with | [v0, v10] => slices_symMergeCmpFuncG.l14 C (opsF 6 56 [.int .i64 0, .str [], .int .i64 0, .int .i64 0, .int .i64 0, .bool false] 0 []) (N 167) (N 169) Q v0 v10 lv h Y4 | _ => False) hR (fun Y4 s h hR => e1 hR)))) (fun s h hR => e1 hR))))) (fun hR => e1 hR))) (fun s h hR => eS hC (fun s h => slices_symMergeCmpFuncG.k7 C (opsF 6 56 [.int .i64 0, .str [], .int .i64 0, .int .i64 0, .int .i64 0, .bool false] 0 []) (N 167) (N 169) Q (s 0) (s 1) (s 2) (s 3) (s 4) h) (eS hC (fun s h => B.cond (s 80) (LoopR (slices_symMergeCmpFuncG.l11 C (opsF 6 56 [.int .i64 0, .str [], .int .i64 0, .int .i64 0, .int .i64 0, .bool false] 0 []) (N 167) (N 169) Q (s 0) (s 2) (s 4)) [(s 1), (s 2)] h) (slices_symMergeCmpFuncG.k7 C (opsF 6 56 [.int .i64 0, .str [], .int .i64 0, .int .i64 0, .int .i64 0, .bool false] 0 []) (N 167) (N 169) Q (s 0) (s 1) (s 2) (s 3) (s 4) h)) (e1 hR) (fun s h hR => eC 80 hR (fun hR => eS hC (fun s h => LoopR (slices_symMergeCmpFuncG.l11 C (opsF 6 56 [.int .i64 0, .str [], .int .i64 0, .int .i64 0, .int .i64 0, .bool false] 0 []) (N 167) (N 169) Q (s 0) (s 2) (s 4)) [(s 14), (s 2)] h) (e1 hR) (fun s h hR => eS hC (fun s h => LoopR (slices_symMergeCmpFuncG.l11 C (opsF 6 56 [.int .i64 0, .str [], .int .i64 0, .int .i64 0, .int .i64 0, .bool false] 0 []) (N 167) (N 169) Q (s 0) (s 2) (s 4)) [(s 14), (s 15)] h) (e1 hR) (fun s h hR => eS hC (fun s h => LoopR (slices_symMergeCmpFuncG.l9 C (opsF 6 56 [.int .i64 0, .str [], .int .i64 0, .int .i64 0, .int .i64 0, .bool false] 0 []) (N 167) (N 169) Q (s 0) (s 14)) [(s 2)] h) (eK (eL hC [0, 2, 4] [14, 15] (fun kv lv h Y3 => match kv with | [v0, v2, v4] => slices_symMergeCmpFuncG.l11 C (opsF 6 56 [.int .i64 0, .str [], .int .i64 0, .int .i64 0, .int .i64 0, .bool false] 0 []) (N 167) (N 169) Q v0 v2 v4 lv h Y3 | _ => False) hR (fun Y3 s h hR => e1 hR))) (fun s h hR => eS hC (fun s h => Q (.tup []) h) (eS hC (fun s h => LoopR (slices_symMergeCmpFuncG.l9 C (opsF 6 56 [.int .i64 0, .str [], .int .i64 0, .int .i64 0, .int .i64 0, .bool false] 0 []) (N 167) (N 169) Q (s 0) (s 14)) [(s 17)] h) (e1 hR) (fun s h hR => eK (eL hC [0, 14] [17] (fun kv lv h Y2 => match kv with | [v0, v14] => slices_symMergeCmpFuncG.l9 C (opsF 6 56 [.int .i64 0, .str [], .int .i64 0, .int .i64 0, .int .i64 0, .bool false] 0 []) (N 167) (N 169) Q v0 v14 lv h Y2 | _ => False) hR (fun Y2 s h hR => e1 hR)))) (fun s h hR => e1 hR))))) (fun hR => e1 hR))) (fun s h hR => eS hC (fun s h => B.pv (V.bin .add (s 18) (s 2)) fun v137 =>
    slices_symMergeCmpFuncG.k6 C (opsF 6 56 [.int .i64 0, .str [], .int .i64 0, .int .i64 0, .int .i64 0, .bool false] 0 []) (N 167) (N 169) Q (s 0) (s 1) (s 2) (s 3) (s 4) (s 18) v137 h) (e1 hR) (fun s h hR => eS hC (fun s h => slices_symMergeCmpFuncG.k6 C (opsF 6 56 [.int .i64 0, .str [], .int .i64 0, .int .i64 0, .int .i64 0, .bool false] 0 []) (N 167) (N 169) Q (s 0) (s 1) (s 2) (s 3) (s 4) (s 18) (s 19) h) (e1 hR) (fun s h hR => eS hC (fun s h => slices_symMergeCmpFuncG.k6 C (opsF 6 56 [.int .i64 0, .str [], .int .i64 0, .int .i64 0, .int .i64 0, .bool false] 0 []) (N 167) (N 169) Q (s 0) (s 1) (s 2) (s 3) (s 4) (s 18) (s 19) h) (e1 hR) (fun s h hR => eS hC (fun s h => B.pv (V.bin .sub (s 19) (.int .i64 1)) fun v148 =>
    LoopR (slices_symMergeCmpFuncG.l5 C (opsF 6 56 [.int .i64 0, .str [], .int .i64 0, .int .i64 0, .int .i64 0, .bool false] 0 []) (N 167) (N 169) Q (s 0) (s 1) (s 2) (s 3) (s 4) (s 18) (s 19) v148) [(s 20), (s 21)] h) (e1 hR) (fun s h hR => eS hC (fun s h => LoopR (slices_symMergeCmpFuncG.l5 C (opsF 6 56 [.int .i64 0, .str [], .int .i64 0, .int .i64 0, .int .i64 0, .bool false] 0 []) (N 167) (N 169) Q (s 0) (s 1) (s 2) (s 3) (s 4) (s 18) (s 19) (s 22)) [(s 20), (s 21)] h) (e1 hR) (fun s h hR => eS hC (fun s h => B.pv (V.bin .sub (s 19) (s 20)) fun v177 =>
    slices_symMergeCmpFuncG.k3 C (opsF 6 56 [.int .i64 0, .str [], .int .i64 0, .int .i64 0, .int .i64 0, .bool false] 0 []) (N 167) (N 169) Q (s 0) (s 1) (s 2) (s 3) (s 4) (s 18) (s 20) v177 h) (eK (eL hC [0, 1, 2, 3, 4, 18, 19, 22] [20, 21] (fun kv lv h Y1 => match kv with | [v0, v1, v2, v3, v4, v18, v19, v22] => slices_symMergeCmpFuncG.l5 C (opsF 6 56 [.int .i64 0, .str [], .int .i64 0, .int .i64 0, .int .i64 0, .bool false] 0 []) (N 167) (N 169) Q v0 v1 v2 v3 v4 v18 v19 v22 lv h Y1 | _ => False) hR (fun Y1 s h hR => e1 hR))) (fun s h hR => eS hC (fun s h => slices_symMergeCmpFuncG.k3 C (opsF 6 56 [.int .i64 0, .str [], .int .i64 0, .int .i64 0, .int .i64 0, .bool false] 0 []) (N 167) (N 169) Q (s 0) (s 1) (s 2) (s 3) (s 4) (s 18) (s 20) (s 24) h) (e1 hR) (fun s h hR => eS hC (fun s h => slices_symMergeCmpFuncG.k2 C (opsF 6 56 [.int .i64 0, .str [], .int .i64 0, .int .i64 0, .int .i64 0, .bool false] 0 []) (N 167) (N 169) Q (s 0) (s 1) (s 3) (s 4) (s 18) (s 20) (s 24) h) (e1 hR) (fun s h hR => eS hC (fun s h => slices_symMergeCmpFuncG.k1 C (opsF 6 56 [.int .i64 0, .str [], .int .i64 0, .int .i64 0, .int .i64 0, .bool false] 0 []) (N 167) (N 169) Q (s 0) (s 3) (s 4) (s 18) (s 24) h) (e1 hR) (fun s h hR => e1 hR)))))))))))
theorem slices_symMergeCmpFunc_api_Lot.imp : slices_symMergeCmpFunc_api_Lot.Imp (AC P) N := fun v0 v1 v2 v3 v4 h Q hR => eF mixed (fn := Try.f67) (fun hC => slices_symMergeCmpFunc_api_Lot.L hC (dn Q) (startS [v0, v1, v2, v3, v4]) h hR)

def cmp_isNaN_int.I : Bx := ⟨[], [], 6, []⟩
theorem cmp_isNaN_int.L {C : CSem} (hC : CMono C) (Q : AVal → AHeap → Prop) (s : Slots) (h : AHeap) (hR : cmp_isNaN_int.cps C N (s 0) h Q) : bwp P C cmp_isNaN_int.I (Try.f68.body.getD .skip) (retB P cmp_isNaN_int.I Try.f68.results.toList Q) s h :=
  e1 hR
theorem cmp_isNaN_int.imp : cmp_isNaN_int.Imp (AC P) N := fun v0 h Q hR => eF mixed (fn := Try.f68) (fun hC => cmp_isNaN_int.L hC (dn Q) (startS [v0]) h hR)

def slices_insertionSortCmpFunc_int.I : Bx := ⟨[], [], 53, [(4, [(0, []), (1, []), (2, []), (3, []), (4, []), (5, []), (6, []), (7, []), (8, []), (9, []), (10, []), (11, []), (12, []), (13, []), (14, []), (15, []), (16, [])]), (6, [(0, []), (1, []), (2, []), (3, []), (4, []), (5, []), (6, []), (7, []), (8, []), (9, []), (10, []), (11, []), (12, []), (13, []), (14, []), (15, []), (16, []), (17, [])])]⟩
theorem slices_insertionSortCmpFunc_int.L {C : CSem} (hC : CMono C) (Q : AVal → AHeap → Prop) (s : Slots) (h : AHeap) (hR : slices_insertionSortCmpFunc_int.cps C N (s 0) (s 1) (s 2) (s 3) h Q) : bwp P C slices_insertionSortCmpFunc_int.I (Try.f69.body.getD .skip) (retB P slices_insertionSortCmpFunc_int.I Try.f69.results.toList Q) s h :=
  eS hC (fun s h => LoopR (slices_insertionSortCmpFuncG.l3 C (opsS 8 (.int .i64 0) 0) Q (s 0) (s 1) (s 2) (s 3)) [(s 8)] h) (e1 hR) (fun s h hR => eK (eL hC [0, 1, 2, 3] [8] (fun kv lv h Y1 => match kv with | [v0, v1, v2, v3] => slices_insertionSortCmpFuncG.l3 C (opsS 8 (.int .i64 0) 0) Q v0 v1 v2 v3 lv h Y1 | _ => False) hR (fun Y1 s h hR => eS hC (fun s h => LoopR (slices_insertionSortCmpFuncG.l2 C (opsS 8 (.int .i64 0) 0) Q Y1 (s 0) (s 1) (s 2) (s 3) (s 8)) [(s 8)] h) (e1 hR) (fun s h hR => eS hC (fun s h => B.pv (V.bin .add (s 8) (.int .i64 1)) fun v16 =>
    Y1 [v16] h) (eK (eS hC (fun s h => LoopR (slices_insertionSortCmpFuncG.l2 C (opsS 8 (.int .i64 0) 0) Q Y1 (s 0) (s 1) (s 2) (s 3) (s 8)) [(s 9)] h) (e1 hR) (fun s h hR => eK (eL hC [0, 1, 2, 3, 8] [9] (fun kv lv h Y2 => match kv with | [v0, v1, v2, v3, v8] => slices_insertionSortCmpFuncG.l2 C (opsS 8 (.int .i64 0) 0) Q Y1 v0 v1 v2 v3 v8 lv h Y2 | _ => False) hR (fun Y2 s h hR => e1 hR))))) (fun s h hR => e1 hR)))))
theorem slices_insertionSortCmpFunc_int.imp : slices_insertionSortCmpFunc_int.Imp (AC P) N := fun v0 v1 v2 v3 h Q hR => eF mixed (fn := Try.f69) (fun hC => slices_insertionSortCmpFunc_int.L hC (dn Q) (startS [v0, v1, v2, v3]) h hR)

def slices_symMergeCmpFunc_int.I : Bx := ⟨[], [], 220, [(5, [(0, []), (1, []), (2, []), (3, []), (4, []), (5, []), (6, []), (7, []), (8, []), (9, []), (10, [])]), (11, [(0, []), (1, []), (2, []), (3, []), (4, []), (5, []), (6, []), (7, []), (8, []), (9, []), (10, []), (11, []), (12, []), (13, []), (14, []), (15, []), (16, []), (17, [])]), (17, [(0, []), (1, []), (2, []), (3, []), (4, []), (5, []), (6, []), (7, []), (8, []), (9, []), (10, []), (11, [])]), (23, [(0, []), (1, []), (2, []), (3, []), (4, []), (5, []), (6, []), (7, []), (8, []), (9, []), (10, []), (11, []), (12, []), (13, []), (14, []), (15, []), (16, []), (17, [])]), (35, [(0, []), (1, []), (2, []), (3, []), (4, []), (5, []), (6, []), (7, []), (8, []), (9, []), (10, []), (11, []), (12, []), (13, [])])]⟩
theorem slices_symMergeCmpFunc_int.L {C : CSem} (hC : CMono C) (Q : AVal → AHeap → Prop) (s : Slots) (h : AHeap) (hR : slices_symMergeCmpFunc_int.cps C N (s 0) (s 1) (s 2) (s 3) (s 4) h Q) : bwp P C slices_symMergeCmpFunc_int.I (Try.f70.body.getD .skip) (retB P slices_symMergeCmpFunc_int.I Try.f70.results.toList Q) s h :=
  eS hC (fun s h => slices_symMergeCmpFuncG.k12 C (opsS 8 (.int .i64 0) 0) (N 249) (N 251) Q (s 0) (s 1) (s 2) (s 3) (s 4) h) (eS hC (fun s h => B.cond (s 28) (LoopR (slices_symMergeCmpFuncG.l16 C (opsS 8 (.int .i64 0) 0) (N 249) (N 251) Q (s 0) (s 1) (s 4)) [(s 2), (s 3)] h) (slices_symMergeCmpFuncG.k12 C (opsS 8 (.int .i64 0) 0) (N 249) (N 251) Q (s 0) (s 1) (s 2) (s 3) (s 4) h)) (e1 hR) (fun s h hR => eC 28 hR (fun hR => eS hC (fun s h => LoopR (slices_symMergeCmpFuncG.l16 C (opsS 8 (.int .i64 0) 0) (N 249) (N 251) Q (s 0) (s 1) (s 4)) [(s 10), (s 3)] h) (e1 hR) (fun s h hR => eS hC (fun s h => LoopR (slices_symMergeCmpFuncG.l16 C (opsS 8 (.int .i64 0) 0) (N 249) (N 251) Q (s 0) (s 1) (s 4)) [(s 10), (s 11)] h) (e1 hR) (fun s h hR => eS hC (fun s h => LoopR (slices_symMergeCmpFuncG.l14 C (opsS 8 (.int .i64 0) 0) (N 249) (N 251) Q (s 0) (s 10)) [(s 1)] h) (eK (eL hC [0, 1, 4] [10, 11] (fun kv lv h Y5 => match kv with | [v0, v1, v4] => slices_symMergeCmpFuncG.l16 C (opsS 8 (.int .i64 0) 0) (N 249) (N 251) Q v0 v1 v4 lv h Y5 | _ => False) hR (fun Y5 s h hR => e1 hR))) (fun s h hR => eS hC (fun s h => Q (.tup []) h) (eS hC (fun s h => LoopR (slices_symMergeCmpFuncG.l14 C (opsS 8 (.int .i64 0) 0) (N 249) (N 251) Q (s 0) (s 10)) [(s 13)] h) (e1 hR) (fun s h hR => eK (eL hC [0, 10] [13] (fun kv lv h Y4 => match kv with | [v0, v10] => slices_symMergeCmpFuncG.l14 C (opsS 8 (.int .i64 0) 0) (N 249) (N 251) Q v0 v10 lv h Y4 | _ => False) hR (fun Y4 s h hR => e1 hR)))) (fun s h hR => e1 hR))))) (fun hR => e1 hR))) (fun s h hR => eS hC (fun s h => slices_symMergeCmpFuncG.k7 C (opsS 8 (.int .i64 0) 0) (N 249) (N 251) Q (s 0) (s 1) (s 2) (s 3) (s 4) h) (eS hC (fun s h => B.cond (s 80) (LoopR (slices_symMergeCmpFuncG.l11 C (opsS 8 (.int .i64 0) 0) (N 249) (N 251) Q (s 0) (s 2) (s 4)) [(s 1), (s 2)] h) (slices_symMergeCmpFuncG.k7 C (opsS 8 (.int .i64 0) 0) (N 249) (N 251) Q (s 0) (s 1) (s 2) (s 3) (s 4) h)) (e1 hR) (fun s h hR => eC 80 hR (fun hR => eS hC (fun s h => LoopR (slices_symMergeCmpFuncG.l11 C (opsS 8 (.int .i64 0) 0) (N 249) (N 251) Q (s 0) (s 2) (s 4)) [(s 14), (s 2)] h) (e1 hR) (fun s h hR => eS hC (fun s h => LoopR (slices_symMergeCmpFuncG.l11 C (opsS 8 (.int .i64 0) 0) (N 249) (N 251) Q (s 0) (s 2) (s 4)) [(s 14), (s 15)] h) (e1 hR) (fun s h hR => eS hC (fun s h => LoopR (slices_symMergeCmpFuncG.l9 C (opsS 8 (.int .i64 0) 0) (N 249) (N 251) Q (s 0) (s 14)) [(s 2)] h) (eK (eL hC [0, 2, 4] [14, 15] (fun kv lv h Y3 => match kv with | [v0, v2, v4] => slices_symMergeCmpFuncG.l11 C (opsS 8 (.int .i64 0) 0) (N 249) (N 251) Q v0 v2 v4 lv h Y3 | _ => False) hR (fun Y3 s h hR => e1 hR))) (fun s h hR => eS hC (fun s h => Q (.tup []) h) (eS hC (fun s h => LoopR (slices_symMergeCmpFuncG.l9 C (opsS 8 (.int .i64 0) 0) (N 249) (N 251) Q (s 0) (s 14)) [(s 17)] h) (e1 hR) (fun s h hR => eK (eL hC [0, 14] [17] (fun kv lv h Y2 => match kv with | [v0, v14] => slices_symMergeCmpFuncG.l9 C (opsS 8 (.int .i64 0) 0) (N 249) (N 251) Q v0 v14 lv h Y2 | _ => False) hR (fun Y2 s h hR => e1 hR)))) (fun s h hR => e1 hR))))) (fun hR => e1 hR))) (fun s h hR => eS hC (fun s h => B.pv (V.bin .add (s 18) (s 2)) fun v137 =>
    slices_symMergeCmpFuncG.k6 C (opsS 8 (.int .i64 0) 0) (N 249) (N 251) Q (s 0) (s 1) (s 2) (s 3) (s 4) (s 18) v137 h) (e1 hR) (fun s h hR => eS hC (fun s h => slices_symMergeCmpFuncG.k6 C (opsS 8 (.int .i64 0) 0) (N 249) (N 251) Q (s 0) (s 1) (s 2) (s 3) (s 4) (s 18) (s 19) h) (e1 hR) (fun s h hR => eS hC (fun s h => slices_symMergeCmpFuncG.k6 C (opsS 8 (.int .i64 0) 0) (N 249) (N 251) Q (s 0) (s 1) (s 2) (s 3) (s 4) (s 18) (s 19) h) (e1 hR) (fun s h hR => eS hC (fun s h => B.pv (V.bin .sub (s 19) (.int .i64 1)) fun v148 =>
    LoopR (slices_symMergeCmpFuncG.l5 C (opsS 8 (.int .i64 0) 0) (N 249) (N 251) Q (s 0) (s 1) (s 2) (s 3) (s 4) (s 18) (s 19) v148) [(s 20), (s 21)] h) (e1 hR) (fun s h hR => eS hC (fun s h => LoopR (slices_symMergeCmpFuncG.l5 C (opsS 8 (.int .i64 0) 0) (N 249) (N 251) Q (s 0) (s 1) (s 2) (s 3) (s 4) (s 18) (s 19) (s 22)) [(s 20), (s 21)] h) (e1 hR) (fun s h hR => eS hC (fun s h => B.pv (V.bin .sub (s 19) (s 20)) fun v177 =>
    slices_symMergeCmpFuncG.k3 C (opsS 8 (.int .i64 0) 0) (N 249) (N 251) Q (s 0) (s 1) (s 2) (s 3) (s 4) (s 18) (s 20) v177 h) (eK (eL hC [0, 1, 2, 3, 4, 18, 19, 22] [20, 21] (fun kv lv h Y1 => match kv with | [v0, v1, v2, v3, v4, v18, v19, v22] => slices_symMergeCmpFuncG.l5 C (opsS 8 (.int .i64 0) 0) (N 249) (N 251) Q v0 v1 v2 v3 v4 v18 v19 v22 lv h Y1 | _ => False) hR (fun Y1 s h hR => e1 hR))) (fun s h hR => eS hC (fun s h => slices_symMergeCmpFuncG.k3 C (opsS 8 (.int .i64 0) 0) (N 249) (N 251) Q (s 0) (s 1) (s 2) (s 3) (s 4) (s 18) (s 20) (s 24) h) (e1 hR) (fun s h hR => eS hC (fun s h => slices_symMergeCmpFuncG.k2 C (opsS 8 (.int .i64 0) 0) (N 249) (N 251) Q (s 0) (s 1) (s 3) (s 4) (s 18) (s 20) (s 24) h) (e1 hR) (fun s h hR => eS hC (fun s h => slices_symMergeCmpFuncG.k1 C (opsS 8 (.int .i64 0) 0) (N 249) (N 251) Q (s 0) (s 3) (s 4) (s 18) (s 24) h) (e1 hR) (fun s h hR => e1 hR)))))))))))
theorem slices_symMergeCmpFunc_int.imp : slices_symMergeCmpFunc_int.Imp (AC P) N := fun v0 v1 v2 v3 v4 h Q hR => eF mixed (fn := Try.f70) (fun hC => slices_symMergeCmpFunc_int.L hC (dn Q) (startS [v0, v1, v2, v3, v4]) h hR)

def slices_rotateCmpFunc_api_Lot.I : Bx := ⟨[], [], 58, []⟩
theorem slices_rotateCmpFunc_api_Lot.L {C : CSem} (hC : CMono C) (Q : AVal → AHeap → Prop) (s : Slots) (h : AHeap) (hR : slices_rotateCmpFunc_api_Lot.cps C N (s 0) (s 1) (s 2) (s 3) (s 4) h Q) : bwp P C slices_rotateCmpFunc_api_Lot.I (Try.f71.body.getD .skip) (retB P slices_rotateCmpFunc_api_Lot.I Try.f71.results.toList Q) s h :=
  eS hC (fun s h => B.pv (V.bin .sub (s 3) (s 2)) fun v17 =>
    LoopR (slices_rotateCmpFuncG.l2 C (opsF 6 56 [.int .i64 0, .str [], .int .i64 0, .int .i64 0, .int .i64 0, .bool false] 0 []) (N 170) Q (s 0) (s 2) (s 4)) [(s 10), v17] h) (e1 hR) (fun s h hR => eS hC (fun s h => LoopR (slices_rotateCmpFuncG.l2 C (opsF 6 56 [.int .i64 0, .str [], .int .i64 0, .int .i64 0, .int .i64 0, .bool false] 0 []) (N 170) Q (s 0) (s 2) (s 4)) [(s 10), (s 11)] h) (e1 hR) (fun s h hR => eS hC (fun s h => B.pv (V.bin .sub (s 2) (s 10)) fun v53 =>
    B.call C (N 170) [(s 0), v53, (s 2), (s 10), (s 4)] h fun v57 h =>
    Q (.tup []) h) (eK (eL hC [0, 2, 4] [10, 11] (fun kv lv h Y1 => match kv with | [v0, v2, v4] => slices_rotateCmpFuncG.l2 C (opsF 6 56 [.int .i64 0, .str [], .int .i64 0, .int .i64 0, .int .i64 0, .bool false] 0 []) (N 170) Q v0 v2 v4 lv h Y1 | _ => False) hR (fun Y1 s h hR => e1 hR))) (fun s h hR => e1 hR)))
theorem slices_rotateCmpFunc_api_Lot.imp : slices_rotateCmpFunc_api_Lot.Imp (AC P) N := fun v0 v1 v2 v3 v4 h Q hR => eF mixed (fn := Try.f71) (fun hC => slices_rotateCmpFunc_api_Lot.L hC (dn Q) (startS [v0, v1, v2, v3, v4]) h hR)

def slices_rotateCmpFunc_int.I : Bx := ⟨[], [], 58, []⟩
theorem slices_rotateCmpFunc_int.L {C : CSem} (hC : CMono C) (Q : AVal → AHeap → Prop) (s : Slots) (h : AHeap) (hR : slices_rotateCmpFunc_int.cps C N (s 0) (s 1) (s 2) (s 3) (s 4) h Q) : bwp P C slices_rotateCmpFunc_int.I (Try.f72.body.getD .skip) (retB P slices_rotateCmpFunc_int.I Try.f72.results.toList Q) s h :=
  eS hC (fun s h => B.pv (V.bin .sub (s 3) (s 2)) fun v17 =>
    LoopR (slices_rotateCmpFuncG.l2 C (opsS 8 (.int .i64 0) 0) (N 252) Q (s 0) (s 2) (s 4)) [(s 10), v17] h) (e1 hR) (fun s h hR => eS hC (fun s h => LoopR (slices_rotateCmpFuncG.l2 C (opsS 8 (.int .i64 0) 0) (N 252) Q (s 0) (s 2) (s 4)) [(s 10), (s 11)] h) (e1 hR) (fun s h hR => eS hC (fun s h => B.pv (V.bin .sub (s 2) (s 10)) fun v53 =>
    B.call C (N 252) [(s 0), v53, (s 2), (s 10), (s 4)] h fun v57 h =>
    Q (.tup []) h) (eK (eL hC [0, 2, 4] [10, 11] (fun kv lv h Y1 => match kv with | [v0, v2, v4] => slices_rotateCmpFuncG.l2 C (opsS 8 (.int .i64 0) 0) (N 252) Q v0 v2 v4 lv h Y1 | _ => False) hR (fun Y1 s h hR => e1 hR))) (fun s h hR => e1 hR)))
theorem slices_rotateCmpFunc_int.imp : slices_rotateCmpFunc_int.Imp (AC P) N := fun v0 v1 v2 v3 v4 h Q hR => eF mixed (fn := Try.f72) (fun hC => slices_rotateCmpFunc_int.L hC (dn Q) (startS [v0, v1, v2, v3, v4]) h hR)

def slices_swapRangeCmpFunc_api_Lot.I : Bx := ⟨[], [], 38, [(3, [(0, []), (1, []), (2, []), (3, []), (4, []), (5, []), (6, []), (7, []), (8, []), (9, []), (10, []), (11, []), (12, []), (13, []), (14, []), (15, []), (16, []), (17, []), (18, []), (19, []), (20, []), (21, []), (22, []), (23, [])])]⟩
theorem slices_swapRangeCmpFunc_api_Lot.L {C : CSem} (hC : CMono C) (Q : AVal → AHeap → Prop) (s : Slots) (h : AHeap) (hR : slices_swapRangeCmpFunc_api_Lot.cps C N (s 0) (s 1) (s 2) (s 3) (s 4) h Q) : bwp P C slices_swapRangeCmpFunc_api_Lot.I (Try.f73.body.getD .skip) (retB P slices_swapRangeCmpFunc_api_Lot.I Try.f73.results.toList Q) s h :=
  eS hC (fun s h => LoopR (slices_swapRangeCmpFuncG.l2 C (opsF 6 56 [.int .i64 0, .str [], .int .i64 0, .int .i64 0, .int .i64 0, .bool false] 0 []) Q (s 0) (s 1) (s 2) (s 3)) [(s 10)] h) (e1 hR) (fun s h hR => eK (eL hC [0, 1, 2, 3] [10] (fun kv lv h Y1 => match kv with | [v0, v1, v2, v3] => slices_swapRangeCmpFuncG.l2 C (opsF 6 56 [.int .i64 0, .str [], .int .i64 0, .int .i64 0, .int .i64 0, .bool false] 0 []) Q v0 v1 v2 v3 lv h Y1 | _ => False) hR (fun Y1 s h hR => e1 hR)))
theorem slices_swapRangeCmpFunc_api_Lot.imp : slices_swapRangeCmpFunc_api_Lot.Imp (AC P) N := fun v0 v1 v2 v3 v4 h Q hR => eF mixed (fn := Try.f73) (fun hC => slices_swapRangeCmpFunc_api_Lot.L hC (dn Q) (startS [v0, v1, v2, v3, v4]) h hR)

def slices_swapRangeCmpFunc_int.I : Bx := ⟨[], [], 38, [(3, [(0, []), (1, []), (2, []), (3, []), (4, []), (5, []), (6, []), (7, []), (8, []), (9, []), (10, []), (11, []), (12, []), (13, []), (14, []), (15, []), (16, []), (17, []), (18, []), (19, []), (20, []), (21, []), (22, []), (23, [])])]⟩
theorem slices_swapRangeCmpFunc_int.L {C : CSem} (hC : CMono C) (Q : AVal → AHeap → Prop) (s : Slots) (h : AHeap) (hR : slices_swapRangeCmpFunc_int.cps C N (s 0) (s 1) (s 2) (s 3) (s 4) h Q) : bwp P C slices_swapRangeCmpFunc_int.I (Try.f74.body.getD .skip) (retB P slices_swapRangeCmpFunc_int.I Try.f74.results.toList Q) s h :=
  eS hC (fun s h => LoopR (slices_swapRangeCmpFuncG.l2 C (opsS 8 (.int .i64 0) 0) Q (s 0) (s 1) (s 2) (s 3)) [(s 10)] h) (e1 hR) (fun s h hR => eK (eL hC [0, 1, 2, 3] [10] (fun kv lv h Y1 => match kv with | [v0, v1, v2, v3] => slices_swapRangeCmpFuncG.l2 C (opsS 8 (.int .i64 0) 0) Q v0 v1 v2 v3 lv h Y1 | _ => False) hR (fun Y1 s h hR => e1 hR)))
theorem slices_swapRangeCmpFunc_int.imp : slices_swapRangeCmpFunc_int.Imp (AC P) N := fun v0 v1 v2 v3 v4 h Q hR => eF mixed (fn := Try.f74) (fun hC => slices_swapRangeCmpFunc_int.L hC (dn Q) (startS [v0, v1, v2, v3, v4]) h hR)

end Go.Ab.S05
