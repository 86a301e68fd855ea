/- What is proved: a part of the way to the statement; each part is headed by what it proves. No conditions. -/
import Derived.Test.YtfinnbedbggnnaaQ3
import Derived.Test.YtfinnbedbggnnaaQ5
import Derived.KernelRfl
import Derived.Test.YtfinnbedbggnnaaQ2
import Derived.Test.YtfinnbedbggnnaaRows

/- What is proved: arguments that are lists of plain values, read in the abstract memory. No conditions. -/
set_option linter.unusedVariables false
namespace Go.Ab
theorem arg_slice {T : Type} {H : AHeap} {bytes es : Nat} {e : Ty} {v : AVal} (cs : T → List AVal) (hd : ∀ p, AbsOk H e p → ∃ t, p = cs t) (h : AbsOk H (.sl bytes es e) [v]) :
    ∃ L : List T, SlIs H es v (L.map cs) ∧ L.length * bytes ≤ reach := by
  rcases h with h | h | ⟨id, parts, h1, h2, h3, h4⟩
  · cases h; exact ⟨[], SlX.nils H es, by simp⟩
  · cases h; exact ⟨[], SlX.sz H es, by simp⟩
  · cases h1
    have : ∃ L : List T, parts = L.map cs := by
      clear h2 h3
      induction parts with
      | nil => exact ⟨[], rfl⟩
      | cons p r ih =>
        obtain ⟨L, rfl⟩ := ih fun q hq => h4 q (by simp [hq])
        obtain ⟨t, rfl⟩ := hd p (h4 p (by simp)).1
        exact ⟨t :: L, rfl⟩
    obtain ⟨L, rfl⟩ := this
    have hl : ∀ p ∈ L.map cs ++ [], p.length = es := fun p hp => (h4 p (by simpa using hp)).2
    have hfl : (L.map cs).flatten.length = L.length * es := by
      have := flat_len (css := L.map cs) (n := es) fun p hp => (h4 p hp).2
      simpa using this
    refine ⟨L, ⟨hl, .inr ⟨id, 0, 0, (L.map cs).length, roOf (L.map cs).flatten, (L.map cs).flatten.length, rfl, by simp, h2, lookup_self .., ?_, Nat.le_refl _, ?_⟩⟩, by simpa using h3⟩
    · rw [hfl]; simp
    · simp only [roOf, List.drop_zero, List.append_nil, List.length_nil, Nat.add_zero, List.length_map]
      rw [← hfl, List.take_length]
end Go.Ab

/- What is proved: what the statements ask of lists of their own, that they lie apart: generic, whatever the elements. No conditions. -/
set_option linter.unusedVariables false
set_option linter.unusedSimpArgs false
namespace Go.Ab
variable {C : CSem} {N : Nat → Nat}

/-- How elements of a kind are loaded, stored, marked, compared. -/
structure ElOps where
  es : Nat
  bytes : Nat
  z : List AVal
  f : Nat
  kp : Option Nat
  ld : AHeap → AVal → (AVal → Prop) → Prop
  st : AHeap → AVal → AVal → (AHeap → Prop) → Prop
  eq : AHeap → AVal → AVal → (AVal → AHeap → Prop) → Prop

section
variable (E : ElOps)
/-- Elements of several cells, compared whole. -/
def opsF (es bytes : Nat) (z : List AVal) (f : Nat) (sh : List Ck) : ElOps where
  es := es; bytes := bytes; z := z; f := f; kp := some es
  ld := fun h p K => B.ldn h p es K
  st := fun h p v K => B.stn h p es v K
  eq := fun h a b K => B.pv (V.binAgg .eql sh a b) fun v => K v h
end
end Go.Ab

/- What is proved: after an append, what stood ahead of it still reads. No conditions. -/
set_option linter.unusedVariables false
set_option linter.unusedSimpArgs false
namespace Go.Ab
variable {C : CSem} {N : Nat → Nat}

def aoff : AVal → Nat
  | .sl _ _ off _ _ _ => off
  | _ => 0
theorem lookup_cut (g hi e : Nat) : ∀ (gens : List (Nat × Nat)), gens.lookup g = some hi → (cutGens gens e).lookup g = some (min hi e)
  | [], h => by cases h
  | (g', k) :: r, h => by
    unfold cutGens
    rw [List.map_cons]
    by_cases e1 : (g == g') = true
    · simp only [List.lookup, e1] at h ⊢
      rw [Option.some.inj h]
    · simp only [Bool.not_eq_true] at e1
      simp only [List.lookup, e1] at h ⊢
      exact lookup_cut g hi e r h
/-- A slice in a block that is appended to, behind its end. -/
theorem SlX.oldApp {h : AHeap} {es : Nat} {x : AVal} {L R : List (List AVal)} (hs : SlX h es x L R) {id : Nat} {b : Blk} (hf : foot x = some id) (hb : h id = some b) {e : Nat} (he : aoff x + L.length * es ≤ e) (hb2 : e ≤ b.cells.length) (news : List AVal) :
    SlX (Ab.upd h id (appBlk b e news)) es x L [] := by
  have h0 := hs.cut
  refine ⟨h0.len, ?_⟩
  rcases h0.at_ with e1 | ⟨id', g, off, cp, b', hi, h1, h1', h2, h3, h4, hh, h5⟩
  · exact .inl e1
  · subst h1
    cases hf
    rw [hb] at h2
    cases h2
    simp only [aoff] at he
    simp only [List.length_nil, Nat.add_zero] at h4 h5 h1'
    have hcells : ((b.cells.take e ++ news).drop off).take (L.length * es) = (L ++ []).flatten := by
      rw [← h5]
      apply List.ext_getElem?
      intro k
      by_cases hk : k < L.length * es
      · rw [List.getElem?_take_of_lt hk, List.getElem?_take_of_lt hk, List.getElem?_drop, List.getElem?_drop, List.getElem?_append_left (by simp; omega), List.getElem?_take_of_lt (by omega)]
      · rw [List.getElem?_take_eq_none (by omega), List.getElem?_take_eq_none (by omega)]
    by_cases hg : g = b.next
    · refine .inr ⟨_, g, off, cp, _, e + news.length, rfl, by simpa using h1', upd_same .., by simp [appBlk, hg, List.lookup], by simp; omega, by simp [appBlk]; omega, ?_⟩
      simpa [appBlk] using hcells
    · refine .inr ⟨_, g, off, cp, _, min hi e, rfl, by simpa using h1', upd_same .., ?_, by simp; omega, by simp [appBlk]; omega, ?_⟩
      · simp only [appBlk, List.lookup]
        rw [show (g == b.next) = false by simpa using hg]
        exact lookup_cut g hi e b.gens h3
      · simpa [appBlk] using hcells

/-- An older slice, read ahead of what was appended to a newer one in its block. -/
structure Old (h : AHeap) (es : Nat) (x : AVal) (L : List (List AVal)) (y : AVal) (M : List (List AVal)) : Prop where
  at_ : SlX h es x L []
  ft : foot x = none ∨ (foot x = foot y ∧ aoff x = aoff y)
  len : L.length ≤ M.length
theorem Old.refl {h : AHeap} {es : Nat} {x : AVal} {L R : List (List AVal)} (hs : SlX h es x L R) : Old h es x L x L := ⟨hs.cut, .inr ⟨rfl, rfl⟩, Nat.le_refl _⟩
theorem Old.other {h h' : AHeap} {es : Nat} {x y z : AVal} {L M : List (List AVal)} (ho : Old h es x L y M) (hb : But z h h') (hne : ∀ id, foot y = some id → foot z ≠ some id) : Old h' es x L y M :=
  ⟨hb.sl ho.at_ fun id hf => hne id (by rcases ho.ft with e | ⟨e, _⟩ <;> rw [e] at hf; cases hf; exact hf), ho.ft, ho.len⟩
theorem Old.mono {h h' : AHeap} {es : Nat} {x y : AVal} {L M : List (List AVal)} (ho : Old h es x L y M) (hle : h.le h') : Old h' es x L y M := ⟨ho.at_.mono hle, ho.ft, ho.len⟩

section
variable {h H h0 : AHeap} {es : Nat} {x : AVal} {L R : List (List AVal)}
/-- Elements appended to a slice in a block of one's own: older slices in it still read. -/
theorem SlX.app2 {bytes : Nat} {M : List (List AVal)} {K : AVal → AHeap → Prop} (ho : SlX h es x L R) (hown : ∀ id b, foot x = some id → h id = some b → b.own = true) (hes : 0 < es) (hM : ∀ p ∈ M, p.length = es) (hb : (L.length + M.length) * bytes ≤ 140737488355328) (hm : L.length + M.length ≤ maxLen)
    (hk : ∀ x' h', SlIs h' es x' (L ++ M) → (∀ id b, foot x' = some id → h' id = some b → b.own = true) → But x h h' → (foot x' = foot x ∨ ∀ id, foot x' = some id → h id = none) → (∀ u U, Old h es u U x L → Old h' es u U x' (L ++ M)) → K x' h') : A.app h es bytes x (some M.flatten) K := by
  have hl := flat_len hM
  have hd : M.flatten.length / es = M.length := by rw [hl, Nat.mul_div_cancel _ hes]
  have hall : ∀ p ∈ (L ++ M) ++ [], p.length = es := fun p hp => by
    rw [List.append_nil] at hp
    rcases List.mem_append.1 hp with hp | hp
    · exact ho.len p (List.mem_append_left _ hp)
    · exact hM p hp
  have fresh : L = [] → foot x = none → (M ≠ [] → (M.flatten.length / es) * bytes ≤ 140737488355328 ∧ M.flatten.length / es ≤ maxLen ∧ A.new h M.flatten fun id h => K (.sl id 0 0 (M.flatten.length / es) es (M.flatten.length / es)) h) := fun e hfx hne => by
    subst e
    rw [hd]
    simp only [List.length_nil, Nat.zero_add] at hb hm
    refine ⟨hb, hm, fun id hid => ?_⟩
    refine hk _ _ ⟨hall, .inr ⟨id, 0, 0, _, blkOf M.flatten, M.flatten.length, by simp only [List.nil_append]; exact rfl, by simp, upd_same .., lookup_self .., by simp [hl], Nat.le_refl _, ?_⟩⟩ (fun j b hj hb' => ?_) (But.of_le _ (le_upd _ hid)) (.inr fun j hj => ?_) (fun u U hu => ⟨hu.at_.mono (le_upd _ hid), .inl ?_, ?_⟩)
    · simp only [List.nil_append, List.append_nil, List.length_nil, Nat.add_zero, ← hl, blkOf, List.drop_zero, List.take_length]
    · cases hj
      rw [upd_same] at hb'; cases hb'; rfl
    · cases hj; exact hid
    · rcases hu.ft with e | ⟨e, _⟩
      · exact e
      · rw [e, hfx]
    · have := hu.len; simp at this; simp [this]
  have hnil : M = [] ∨ M.flatten.length ≠ 0 := by
    cases M with
    | nil => exact .inl rfl
    | cons a r =>
      refine .inr ?_
      rw [hl, List.length_cons, Nat.add_mul]
      omega
  have h0 := ho.cut
  rcases h0.at_ with ⟨e, _, e' | e'⟩ | ⟨id, g, off, cp, b, hi, h1, h1', h2, h3, h4, hh, h5⟩
  · subst e'
    simp only [A.app]
    split
    · rename_i hz
      rcases hnil with hn | hn
      · subst hn; exact hk _ _ (by simpa using h0) (fun _ _ hj => by cases hj) (But.of_le _ (AHeap.le_refl h)) (.inl rfl) (fun u U hu => by simpa using hu)
      · exact absurd hz hn
    · rename_i hz
      exact fresh e rfl fun hn => hz (by rw [hn]; rfl)
  · subst e'
    simp only [A.app]
    split
    · rename_i hz
      rcases hnil with hn | hn
      · subst hn; exact hk _ _ (by simpa using h0) (fun _ _ hj => by cases hj) (But.of_le _ (AHeap.le_refl h)) (.inl rfl) (fun u U hu => by simpa using hu)
      · exact absurd hz hn
    · rename_i hz
      exact fresh e rfl fun hn => hz (by rw [hn]; rfl)
  · have hown' := hown id b (by rw [h1]; rfl) h2
    subst h1
    simp only [List.length_nil, Nat.add_zero, List.append_nil] at h4 h5
    simp only [A.app, h2, h3, hd]
    have hcl : off + L.length * es ≤ b.cells.length := by omega
    have htl : (b.cells.take (off + L.length * es)).length = off + L.length * es := by simp; omega
    refine ⟨trivial, hown', h4, hb, hm, hk _ _ ⟨hall, .inr ⟨id, b.next, off, _, _, off + L.length * es + M.flatten.length, by rw [List.length_append], by simp, upd_same .., lookup_self .., ?_, ?_, ?_⟩⟩ (fun j b1 hj hb1 => ?_) (fun j b1 e1 e2 => ?_) (.inl rfl) (fun u U hu => ⟨?_, ?_, ?_⟩)⟩
    · rw [List.length_append, List.length_nil, Nat.add_zero, Nat.add_mul, hl]; omega
    · simp only [appBlk, List.length_append, htl]; omega
    · simp only [appBlk, List.append_nil, List.length_nil, Nat.add_zero]
      rw [List.drop_append_of_le_length (by omega), List.length_append, Nat.add_mul, ← hl, List.flatten_append, ← h5]
      have e1 : (b.cells.take (off + L.length * es)).drop off = (b.cells.drop off).take (L.length * es) := by
        rw [List.drop_take]; congr 1; omega
      have e2 : ((b.cells.drop off).take (L.length * es)).length = L.length * es := by simp; omega
      rw [e1, List.take_of_length_le]
      rw [List.length_append, e2]; omega
    · cases hj
      rw [upd_same] at hb1; cases hb1; exact hown'
    · rw [upd_other]
      · exact e1
      · intro e; subst e; exact e2 rfl
    · by_cases hf : foot u = some id
      · refine hu.at_.oldApp hf h2 ?_ hcl _
        have e1 := hu.len
        have e2 : aoff u = off := by
          rcases hu.ft with e | ⟨_, e⟩
          · rw [e] at hf; cases hf
          · exact e
        rw [e2]
        have := Nat.mul_le_mul_right es e1
        omega
      · exact hu.at_.upd hf
    · rcases hu.ft with e | ⟨e, e'⟩
      · exact .inl e
      · exact .inr ⟨e, e'⟩
    · have := hu.len; rw [List.length_append]; omega
theorem SlX.appW2 {bytes : Nat} {y : AVal} {M R' : List (List AVal)} {K : AVal → AHeap → Prop} (ho : SlX h es x L R) (hown : ∀ id b, foot x = some id → h id = some b → b.own = true) (hs : SlX h es y M R') (hes : 0 < es) (hb : (L.length + M.length) * bytes ≤ 140737488355328) (hm : L.length + M.length ≤ maxLen)
    (hk : ∀ x' h', SlIs h' es x' (L ++ M) → (∀ id b, foot x' = some id → h' id = some b → b.own = true) → But x h h' → (foot x' = foot x ∨ ∀ id, foot x' = some id → h id = none) → (∀ u U, Old h es u U x L → Old h' es u U x' (L ++ M)) → K x' h') : A.appW h es bytes x y K := by
  unfold A.appW
  rw [hs.srcLen]
  simp only
  rw [hs.rdv]
  exact ho.app2 hown hes (fun p hp => hs.len p (List.mem_append_left _ hp)) hb hm hk
end
section
variable {h0 h h' : AHeap} {l : List Ob}
theorem Owns.ne (ho : Owns h0 h l) {i j : Nat} {a b : Ob} (hi : l[i]? = some a) (hj : l[j]? = some b) (hij : i ≠ j) : ∀ id, a.foot = some id → b.foot ≠ some id := fun id ha hb => by
  rcases Nat.lt_or_gt_of_ne hij with hlt | hgt
  · have := List.pairwise_iff_getElem.1 ho.apart i j (List.getElem?_eq_some_iff.1 hi).1 (List.getElem?_eq_some_iff.1 hj).1 hlt
    rw [(List.getElem?_eq_some_iff.1 hi).2, (List.getElem?_eq_some_iff.1 hj).2] at this
    exact this id ha hb
  · have := List.pairwise_iff_getElem.1 ho.apart j i (List.getElem?_eq_some_iff.1 hj).1 (List.getElem?_eq_some_iff.1 hi).1 hgt
    rw [(List.getElem?_eq_some_iff.1 hj).2, (List.getElem?_eq_some_iff.1 hi).2] at this
    exact this id hb ha
end

/-- Loads that tell something. -/
def Kp (h : AHeap) (p : AVal) (o : Option Nat) : Prop := match o with | none => ∃ x, A.ldv h p = some x | some n => ∃ x, A.ldnv h p n = some x
/-! Lists of lists. -/
def upf {α : Type} (f : Nat → α) (k : Nat) (v : α) : Nat → α := fun j => if j = k then v else f j
def Objs (es n : Nat) (xs : Nat → AVal) (D R : Nat → List (List AVal)) : List Ob := (List.range n).map fun j => Ob.sl es (xs j) (D j) (R j)
section
variable {es n k : Nat} {xs : Nat → AVal} {D R : Nat → List (List AVal)}
@[simp] theorem Objs.length : (Objs es n xs D R).length = n := by simp [Objs]
theorem Objs.get (hk : k < n) : (Objs es n xs D R)[k]? = some (.sl es (xs k) (D k) (R k)) := by simp [Objs, hk]
theorem Objs.set {x : AVal} {L M : List (List AVal)} : (Objs es n xs D R).set k (.sl es x L M) = Objs es n (upf xs k x) (upf D k L) (upf R k M) := by
  apply List.ext_getElem?
  intro j
  by_cases hj : j < n
  · rw [Objs.get hj]
    by_cases e : k = j
    · subst e; rw [List.getElem?_set_self (by simpa using hj)]; simp [upf]
    · rw [List.getElem?_set_ne e, Objs.get hj]; simp [upf, Ne.symm e]
  · rw [List.getElem?_eq_none (by simp; omega), List.getElem?_eq_none (by simp; omega)]
theorem Objs.congr {ys : Nat → AVal} {E S : Nat → List (List AVal)} (h : ∀ j, j < n → xs j = ys j ∧ D j = E j ∧ R j = S j) : Objs es n xs D R = Objs es n ys E S :=
  List.map_congr_left fun j hj => by obtain ⟨a, b, c⟩ := h j (by simpa using hj); rw [a, b, c]
theorem Objs.getA {l : List Ob} (hk : k < n) : (Objs es n xs D R ++ l)[k]? = some (.sl es (xs k) (D k) (R k)) := by
  rw [List.getElem?_append_left (by simpa using hk)]; exact Objs.get hk
theorem Objs.setA {l : List Ob} (hk : k < n) {x : AVal} {L M : List (List AVal)} : (Objs es n xs D R ++ l).set k (.sl es x L M) = Objs es n (upf xs k x) (upf D k L) (upf R k M) ++ l := by
  rw [List.set_append_left _ _ (by simpa using hk), Objs.set]
theorem Objs.getL {o : Ob} : (Objs es n xs D R ++ [o])[n]? = some o := by
  rw [List.getElem?_append_right (by simp)]; simp
theorem Objs.setL {o o' : Ob} : (Objs es n xs D R ++ [o]).set n o' = Objs es n xs D R ++ [o'] := by
  rw [List.set_append_right _ _ (by simp)]; simp
end
end Go.Ab

/- What is proved: what the statements ask of lists that lie apart holds of lists of one's own, whatever the elements. No conditions. -/
set_option linter.unusedVariables false
set_option linter.unusedSimpArgs false
namespace Go.Ab
variable {C : CSem} {N : Nat → Nat}

/-- What is asked of a kind of elements: marks m (their cells), v (as values). -/
structure ElSpec (C : CSem) (E : ElOps) (m : Int → Int → List AVal) (v : Int → Int → AVal) : Prop where
  pos : 0 < E.es
  small : E.bytes ≤ 1000
  len : ∀ k i, (m k i).length = E.es
  zlen : E.z.length = E.es
  new : ∀ k i, fillL [(0, E.kp, v k i)] (repL 1 E.z) = some (m k i)
  call : ∀ (k i : Int) (h : AHeap) (Q : AVal → AHeap → Prop), Q (v k i) h → C E.f [.int .i64 k, .int .i64 i] h Q
  ld : ∀ {h : AHeap} {x : AVal} {L R : List (List AVal)} {i : Nat} {k j : Int} {K : AVal → Prop}, SlX h E.es x L R → L[i]? = some (m k j) → K (v k j) → E.ld h (elp E.es x i 0) K
  kpt : ∀ {h : AHeap} {x : AVal} {L R : List (List AVal)} {i : Nat} {k j : Int}, SlX h E.es x L R → L[i]? = some (m k j) → Kp h (elp E.es x i 0) E.kp
  st : ∀ {h : AHeap} {x : AVal} {L R : List (List AVal)} {i : Nat} {c : List AVal} {k j : Int} {K : AHeap → Prop}, SlX h E.es x L R → (∀ id b, foot x = some id → h id = some b → b.own = true) → L[i]? = some c →
    (∀ h', SlX h' E.es x (L.set i (m k j)) R → (∀ id b, foot x = some id → h' id = some b → b.own = true) → But x h h' → K h') → E.st h (elp E.es x i 0) (v k j) K
  eq : ∀ {h : AHeap} {k i : Int} {K : AVal → AHeap → Prop}, K (.bool true) h → E.eq h (v k i) (v k i) K

def mkTo (m : Int → Int → List AVal) (k n : Nat) : List (List AVal) := (List.range n).map fun (i : Nat) => m (k : Int) (i : Int)
section
variable {m : Int → Int → List AVal} {k n i : Nat}
@[simp] theorem mkTo_len : (mkTo m k n).length = n := by simp [mkTo]
@[simp] theorem mkTo_zero : mkTo m k 0 = [] := rfl
end
theorem upf_self {α : Type} (f : Nat → α) (k : Nat) (v : α) : upf f k v k = v := by simp [upf]
theorem upf_ne {α : Type} (f : Nat → α) {k j : Nat} (v : α) (h : j ≠ k) : upf f k v j = f j := by simp [upf, h]
theorem upf_const {α : Type} (k : Nat) (v : α) : upf (fun _ => v) k v = fun _ => v := by funext j; unfold upf; split <;> rfl
section
variable {h : AHeap} {x : AVal} {n k : Nat} {xs : Nat → AVal} {W : List (List AVal)} (hx : SlX h 1 x (fills n fun j => [xs j]) W)
include hx
end

/-- The lists as they were (marked), the newer ones, and the list of these. -/
structure FS (E : ElOps) (m : Int → Int → List AVal) (h0 h : AHeap) (v5 : AVal) (n : Nat) (xs : Nat → AVal) (len : Nat → Nat) (ys : Nat → AVal) (F : Nat → List (List AVal)) (gs : Nat → AVal) : Prop where
  own : Owns h0 h (Objs E.es n ys F (fun _ => []) ++ [.sl 1 v5 (fills n fun j => [gs j]) []])
  old : ∀ j, j < n → Old h E.es (xs j) (mkTo m j (len j)) (ys j) (F j)

section
variable {E : ElOps} {m : Int → Int → List AVal} {v : Int → Int → AVal} {h0 h h' : AHeap} {x v5 : AVal} {n k : Nat} {xs ys gs : Nat → AVal} {len : Nat → Nat} {F : Nat → List (List AVal)} {W : List (List AVal)} {Q : AVal → AHeap → Prop}

theorem FS.grow (fs : FS E m h0 h v5 n xs len ys F gs) (hle : h.le h') : FS E m h0 h' v5 n xs len ys F gs := ⟨fs.own.grow hle, fun j hj => (fs.old j hj).mono hle⟩
theorem FS.yAt (fs : FS E m h0 h v5 n xs len ys F gs) (hk : k < n) : SlX h E.es (ys k) (F k) [] := fs.own.slAt k (Objs.getA hk)
theorem FS.turn (fs : FS E m h0 h v5 n xs len ys F gs) (hk : k < n) {y : AVal} {L : List (List AVal)} (h1 : SlX h' E.es y L []) (h2 : ∀ id b, foot y = some id → h' id = some b → b.own = true)
    (h3 : ∀ j b, h j = some b → foot (ys k) ≠ some j → h' j = some b) (h4 : foot y = foot (ys k) ∨ ∀ id, foot y = some id → h id = none) (h5 : Old h' E.es (xs k) (mkTo m k (len k)) y L) : FS E m h0 h' v5 n xs len (upf ys k y) (upf F k L) gs := by
  refine ⟨?_, fun j hj => ?_⟩
  · have := fs.own.turn k (Objs.getA hk) (o' := .sl E.es y L []) h1 h2 h3 h4
    rwa [Objs.setA hk, upf_const] at this
  · by_cases e : j = k
    · subst e; rw [upf_self, upf_self]; exact h5
    · rw [upf_ne _ _ e, upf_ne _ _ e]
      exact (fs.old j hj).other (z := ys k) h3 (fs.own.ne (Objs.getA hj) (Objs.getA hk) e)
theorem FS.store (fs : FS E m h0 h v5 n xs len ys F gs) (hk : k < n) {y : AVal} (hy : y.isCell = true) {K : AHeap → Prop} (hK : ∀ h', FS E m h0 h' v5 n xs len ys F (upf gs k y) → K h') : A.st h (elp 1 v5 k 0) y K := by
  refine fs.own.st n Objs.getL (fills_get _ hk) (by omega) hy fun h' ho hb => hK h' ⟨?_, fun j hj => ?_⟩
  · rw [Objs.setL] at ho
    have e : (fills n fun j => [gs j]).set k ([gs k].set 0 y) = fills n fun j => [upf gs k y j] := by
      rw [fills_set]
      refine fills_congr fun j hj => ?_
      unfold upf
      split <;> rfl
    rwa [e] at ho
  · exact (fs.old j hj).other hb (fs.own.ne (Objs.getA hj) Objs.getL (by omega))
theorem FS.push (S : ElSpec C E m v) (fs : FS E m h0 h v5 n xs len ys F gs) (hk : k < n) {cs : List AVal} (hcs : cs.length = E.es) (hl : (F k).length ≤ 100000100) {K : AVal → AHeap → Prop}
    (hK : ∀ y h', FS E m h0 h' v5 n xs len (upf ys k y) (upf F k (F k ++ [cs])) gs → K y h') : A.newO h (some cs) fun i h => A.appW h E.es E.bytes (ys k) (.sl i 0 0 1 E.es 1) K := fun i hi => by
  have fg := fs.grow (le_upd (blkOf cs) hi)
  have hmul := Nat.mul_le_mul (show (F k).length + 1 ≤ 100000101 by omega) S.small
  refine (fg.yAt hk).appW2 (fg.own.ownAt k (Objs.getA hk)) (M := [cs]) (R' := []) (SlX.lit (upd_same ..) (by simpa using hcs) rfl (by simp) (by simp)) S.pos (by simp only [List.length_singleton]; omega) (by simp [maxLen]; omega) fun y h' h1 h2 h3 h4 h5 => ?_
  exact hK y h' (fg.turn hk h1 h2 h3 h4 (h5 _ _ (fg.old k hk)))

end
end Go.Ab

/- What is proved: contracts of what the statements share about lists of numbers, texts: are they the same, lent with marks, kept; lists written over, and copied. No conditions. -/
set_option linter.unusedVariables false
set_option linter.unusedSimpArgs false
namespace Go.Ab
variable {C : CSem} {N : Nat → Nat}

/-- A type whose values stand as one cell. -/
structure Scal (T : Type) [DecidableEq T] where
  c : T → AVal
  cell : ∀ t, (c t).isCell = true
  eql : ∀ a b, V.bin .eql (c a) (c b) = some (.bool (decide (a = b)))
  neq : ∀ a b, V.bin .neq (c a) (c b) = some (.bool (!decide (a = b)))
theorem SlX.cell {h : AHeap} {x c : AVal} {L R : List (List AVal)} {i : Nat} (hs : SlX h 1 x L R) (hc : L[i]? = some [c]) : A.ldv h (elp 1 x i 0) = some c := by
  rw [hs.ldv hc (by omega)]; rfl
section
variable {T : Type} [DecidableEq T] (F : Scal T)
abbrev Scal.cs (t : T) : List AVal := [F.c t]

end
/-! What one owns, parted: some of it as what was there at first. -/
def AHeap.without (h : AHeap) (l : List Ob) : AHeap := ⟨fun i => bif l.any (fun o => o.foot == some i) then none else h i, by
  obtain ⟨n, k⟩ := h.2
  refine ⟨n, fun i hi => ?_⟩
  show (bif l.any (fun o => o.foot == some i) then none else h i) = none
  cases l.any (fun o => o.foot == some i)
  · exact k i hi
  · rfl⟩
theorem without_in {h : AHeap} {l : List Ob} {i : Nat} {o : Ob} (hm : o ∈ l) (hf : o.foot = some i) : h.without l i = none := by
  have : (l.any fun o => o.foot == some i) = true := List.any_eq_true.2 ⟨o, hm, by simp [hf]⟩
  show (bif l.any (fun o => o.foot == some i) then none else h i) = none
  rw [this]; rfl
theorem without_out {h : AHeap} {l : List Ob} {i : Nat} (hm : ∀ o ∈ l, o.foot ≠ some i) : h.without l i = h i := by
  have : (l.any fun o => o.foot == some i) = false := by
    rw [← Bool.not_eq_true, List.any_eq_true]
    rintro ⟨o, h1, h2⟩
    exact hm o h1 (by simpa using h2)
  show (bif l.any (fun o => o.foot == some i) then none else h i) = _
  rw [this]; rfl
theorem without_le (h : AHeap) (l : List Ob) : (h.without l).le h := fun i b e => by
  by_cases hm : ∃ o ∈ l, o.foot = some i
  · obtain ⟨o, h1, h2⟩ := hm
    rw [without_in h1 h2] at e; cases e
  · rw [without_out fun o h1 h2 => hm ⟨o, h1, h2⟩] at e; exact e
theorem Owns.out {h0 h : AHeap} {l1 l2 : List Ob} (ho : Owns h0 h (l1 ++ l2)) : Owns h0 (h.without l2) l1 ∧ Owns (h.without l2) h l2 := by
  obtain ⟨a1, a2, a3⟩ := List.pairwise_append.1 ho.apart
  have h1 : h0.le (h.without l2) := fun i b e => by
    rw [without_out fun o hm hf => by rw [(ho.own o (List.mem_append_right _ hm) i hf).1] at e; cases e]
    exact ho.le i b e
  have keep : ∀ o ∈ l1, ∀ id, o.foot = some id → (h.without l2) id = h id := fun o hm id hf => without_out fun o2 hm2 hf2 => a3 o hm o2 hm2 id hf hf2
  refine ⟨⟨h1, fun o hm => (ho.is o (List.mem_append_left _ hm)).keep fun id b hf hb => by rw [keep o hm id hf]; exact hb, fun o hm id hf => ?_, a1⟩,
    ⟨without_le h l2, fun o hm => ho.is o (List.mem_append_right _ hm), fun o hm id hf => ⟨without_in hm hf, (ho.own o (List.mem_append_right _ hm) id hf).2⟩, a2⟩⟩
  obtain ⟨b1, b2⟩ := ho.own o (List.mem_append_left _ hm) id hf
  exact ⟨b1, fun b hb => b2 b (by rw [← keep o hm id hf]; exact hb)⟩
/-! Kinds of elements. -/
end Go.Ab

/- What is told: the types that the program's packages share, as cells. No conditions. -/
set_option linter.unusedVariables false
namespace Go.Ab
structure Window where
  From : Int
  Until : Int
  deriving DecidableEq
@[simp] def Window.cs (w : Window) : List AVal := [.int .i64 w.From, .int .i64 w.Until]
@[simp] theorem Window.eta (w : Window) : Window.mk w.From w.Until = w := rfl
structure Lot where
  Id : Int
  Item : List UInt8
  From : Int
  Until : Int
  Qty : Int
  Arrived : Bool
  deriving DecidableEq
@[simp] def Lot.cs (l : Lot) : List AVal := [.int .i64 l.Id, .str l.Item, .int .i64 l.From, .int .i64 l.Until, .int .i64 l.Qty, .bool l.Arrived]
def lotF : Flat Lot where
  cs := Lot.cs
  es := 6
  sh := [.i .i64, .s, .i .i64, .i .i64, .i .i64, .b]
  len _ := rfl
  pos := by omega
  eq a b := by
    cases a; cases b
    simp
structure Use where
  Want : Int
  Lot : Int
  Qty : Int
  deriving DecidableEq
@[simp] def Use.cs (u : Use) : List AVal := [.int .i64 u.Want, .int .i64 u.Lot, .int .i64 u.Qty]
structure Want where
  Item : List UInt8
  Day : Int
  Qty : Int
  deriving DecidableEq
@[simp] def Want.cs (u : Want) : List AVal := [.str u.Item, .int .i64 u.Day, .int .i64 u.Qty]
structure Part where
  Item : List UInt8
  Qty : Int
  deriving DecidableEq
@[simp] def Part.cs (u : Part) : List AVal := [.str u.Item, .int .i64 u.Qty]
theorem u8_eq (a b : UInt8) : decide ((a.toNat : Int) = b.toNat) = decide (a = b) := by
  rw [decide_eq_decide]
  constructor
  · intro h; exact UInt8.toNat_inj.1 (by omega)
  · intro h; rw [h]
structure Line where
  Id : Int
  Item : List UInt8
  Qty : Int
  Asked : Int
  Rank : Int
  State : UInt8
  Day : Int
  Code : List UInt8
  deriving DecidableEq
@[simp] def Line.cs (u : Line) : List AVal := [.int .i64 u.Id, .str u.Item, .int .i64 u.Qty, .int .i64 u.Asked, .int .i64 u.Rank, .int .u8 (u.State.toNat : Int), .int .i64 u.Day, .str u.Code]
def bS : Scal UInt8 where
  c b := .int .u8 b.toNat
  cell _ := rfl
  eql a b := by rw [V.bin_eql, u8_eq]
  neq a b := by rw [V.bin_neq, u8_eq]
abbrev bc : UInt8 → List AVal := bS.cs
def byt (m : Int) : UInt8 := UInt8.ofNat (m % 256).toNat
structure TellP where
  Err : Int
  Id : Int
  Day : Int
  Code : List UInt8
  State : UInt8
  Lots : List Lot
  Uses : List Use
  deriving DecidableEq
/-- An answer's value: its lists are x and y. -/
@[simp] def TellP.cs (t : TellP) (x y : AVal) : List AVal := [.int .i64 t.Err, .int .i64 t.Id, .int .i64 t.Day, .str t.Code, .int .u8 (t.State.toNat : Int), x, y]
structure TellAt (h : AHeap) (t : TellP) (x y : AVal) : Prop where
  lots : ∃ R, SlX h 6 x (t.Lots.map Lot.cs) R
  uses : ∃ R, SlX h 3 y (t.Uses.map Use.cs) R
theorem TellAt.mono {h H : AHeap} {t : TellP} {x y : AVal} (ht : TellAt h t x y) (hle : h.le H) : TellAt H t x y := by
  obtain ⟨⟨R, a⟩, ⟨S, b⟩⟩ := ht
  exact ⟨⟨R, a.mono hle⟩, ⟨S, b.mono hle⟩⟩
def inI64 (n : Int) : Prop := -9223372036854775808 ≤ n ∧ n ≤ 9223372036854775807
def Lot.ok (l : Lot) : Prop := inI64 l.Id ∧ inI64 l.Qty
def Use.ok (u : Use) : Prop := inI64 u.Want ∧ inI64 u.Lot ∧ inI64 u.Qty
def TellP.ok (t : TellP) : Prop := inI64 t.Id ∧ (∀ l ∈ t.Lots, l.ok) ∧ ∀ u ∈ t.Uses, u.ok

end Go.Ab

/- What is proved: arguments of the types that the packages share, read in the abstract memory. No conditions. -/
set_option linter.unusedVariables false
namespace Go.Ab
abbrev tyWindow : Ty := .st [.i .i64, .i .i64]
abbrev tyLot : Ty := .st [.i .i64, .s, tyWindow, .i .i64, .b]
theorem arg_sliceP {T : Type} {H : AHeap} {bytes es : Nat} {e : Ty} {v : AVal} (cs : T → List AVal) (P : T → Prop) (hd : ∀ p, AbsOk H e p → ∃ t, p = cs t ∧ P t) (h : AbsOk H (.sl bytes es e) [v]) :
    ∃ L : List T, SlIs H es v (L.map cs) ∧ L.length * bytes ≤ reach ∧ ∀ t ∈ L, P t := by
  obtain ⟨L, h1, h2⟩ := arg_slice (T := { t : T // P t }) (fun t => cs t.1) (fun p hp => by obtain ⟨t, e, k⟩ := hd p hp; exact ⟨⟨t, k⟩, e⟩) h
  refine ⟨L.map (·.1), ?_, by simpa using h2, fun t ht => ?_⟩
  · rw [List.map_map]; exact h1
  · obtain ⟨u, _, rfl⟩ := List.mem_map.1 ht; exact u.2
theorem dWindow {H : AHeap} {p : List AVal} (h : AbsOk H tyWindow p) : ∃ w : Window, p = w.cs := by
  obtain ⟨a, r, rfl, ⟨n, rfl, _⟩, ⟨b, r2, rfl, ⟨m, rfl, _⟩, hr⟩⟩ := h
  cases hr
  exact ⟨⟨n, m⟩, rfl⟩
theorem dLotL {H : AHeap} {p : List AVal} (h : AbsOk H tyLot p) : ∃ w : Lot, p = w.cs ∧ w.Item.length < 4611686018427387904 := by
  obtain ⟨a, r, rfl, ⟨n1, rfl, _⟩, ⟨b, r2, rfl, ⟨n2, rfl, k⟩, ⟨c, r3, rfl, hw, ⟨d, r4, rfl, ⟨n4, rfl, _⟩, ⟨e, r5, rfl, ⟨n5, rfl⟩, hr⟩⟩⟩⟩⟩ := h
  cases hr
  obtain ⟨w, rfl⟩ := dWindow hw
  exact ⟨⟨n1, n2, w.From, w.Until, n4, n5⟩, rfl, by unfold reach at k; show n2.length < _; omega⟩
theorem dLots {H : AHeap} {v : AVal} (h : AbsOk H (.sl 56 6 tyLot) [v]) : ∃ L : List Lot, SlIs H 6 v (L.map Lot.cs) ∧ L.length < 4611686018427387904 ∧ ∀ l ∈ L, l.Item.length < 4611686018427387904 := by
  obtain ⟨L, h1, h2, h3⟩ := arg_sliceP Lot.cs (fun l => l.Item.length < 4611686018427387904) (fun p hp => dLotL hp) h
  exact ⟨L, h1, by unfold reach at h2; omega, h3⟩
end Go.Ab

/- What is proved: rules by which a function's reading is tied to a printed residual, piece within piece. No conditions. -/
set_option linter.unusedVariables false
namespace Go.Ab
/-! A code's parts. -/
def cA : Code → Code
  | .seq a _ => a
  | .cond _ a _ => a
  | .block _ b => b
  | .loop b => b
  | _ => .skip
def cB : Code → Code
  | .seq _ b => b
  | .cond _ _ b => b
  | _ => .skip
def cI : Code → Nat
  | .block i _ => i
  | _ => 0
def isS : Code → Bool
  | .seq _ _ => true
  | _ => false
def isC (t : Nat) : Code → Bool
  | .cond (.tmp k) _ _ => Nat.beq k t
  | _ => false
def isK : Code → Bool
  | .block _ _ => true
  | _ => false
def isL : Code → Bool
  | .loop _ => true
  | _ => false
section
variable {P : Program} {C : CSem} {I : Bx}
theorem eS (hC : CMono C) {c : Code} {Q : Ex → Slots → AHeap → Prop} {s : Slots} {h : AHeap} (X : Slots → AHeap → Prop) (ha : bwp P C I (cA c) (Ex.then X Q) s h) (hb : ∀ s h, X s h → bwp P C I (cB c) Q s h) (hk : isS c = true := by kernel_rfl) : bwp P C I c Q s h := by
  cases c <;> first | exact seqB hC rfl hb ha | cases hk
theorem eC {c : Code} {Q : Ex → Slots → AHeap → Prop} {p q : Prop} {s : Slots} {h : AHeap} (t : Nat) (hr : A.cond (s t) p q) (hx : p → bwp P C I (cA c) Q s h) (hy : q → bwp P C I (cB c) Q s h) (hk : isC t c = true := by kernel_rfl) : bwp P C I c Q s h := by
  cases c with
  | cond o x y =>
    cases o with
    | tmp k =>
      have e : k = t := Nat.eq_of_beq_eq_true hk
      subst e
      exact condB rfl hx hy hr
    | _ => cases hk
  | _ => cases hk
theorem eK {c : Code} {Q : Ex → Slots → AHeap → Prop} {s : Slots} {h : AHeap} (hb : bwp P C I (cA c) (Ex.inBlock (cI c) Q) s h) (hk : isK c = true := by kernel_rfl) : bwp P C I c Q s h := by
  cases c <;> first | exact hb | cases hk
theorem eL (hC : CMono C) {c : Code} {Q : Ex → Slots → AHeap → Prop} {s : Slots} {h : AHeap} (keep live : List Nat) (G : List AVal → List AVal → AHeap → (List AVal → AHeap → Prop) → Prop)
    (hr : LoopR (G (keep.map s)) (live.map s) h)
    (hG : ∀ (Y : List AVal → AHeap → Prop) (s : Slots) (h : AHeap), G (keep.map s) (live.map s) h Y → bwp P C I (cA c) (Ex.then (fun s h => Y (live.map s) h) Q) s h)
    (hk : isL c = true := by kernel_rfl) (hw : (keep.all fun k => !memB (writesB P I (cA c)) k) = true := by kernel_rfl) : bwp P C I c Q s h := by
  cases c <;> first | exact loopB hC keep live rfl hw hG hr | cases hk
/-- A piece that is read at once. -/
theorem e1 {c : Code} {Q : Ex → Slots → AHeap → Prop} {s : Slots} {h : AHeap} {p : Prop} (hR : p) (e : bwp P C I c Q s h = p := by kernel_rfl) : bwp P C I c Q s h := e.mpr hR

/-- A whole function. -/
theorem eF (hm : P.follows .mixedOrders = true) {f : FuncId} {fn : Func} {c : Code} {I : Bx} {args : List AVal} {h : AHeap} {Q : AVal → AHeap → Prop}
    (hx : CMono (AC P) → bwp P (AC P) I c (retB P I fn.results.toList (dn Q)) (startS args) h) (hf : P.funcs[f]? = some fn := by kernel_rfl) (hb : fn.body = some c := by kernel_rfl) (h1 : (fn.name == "runtime.NumGoroutine") = false := by kernel_rfl)
    (hc : codeIn fn.ntmps c = true := by kernel_rfl) (hl : Nat.ble args.length fn.ntmps = true := by kernel_rfl) (hB : Nat.ble args.length I.B = true := by kernel_rfl) (hk : chkC P I c = true := by kernel_rfl) : AC P f args h Q :=
  AC_drop (AC_introB hm hf hb (callFunc_enter hf (by rw [hb]; rfl) h1) hc (Nat.le_of_ble_eq_true hl) (Nat.le_of_ble_eq_true hB) hk (hx (AC_cmono P)))
end
end Go.Ab

/- What is told: residuals: what each function does in the abstract memory, printed by a program of mine. Definitions alone. -/
set_option linter.unusedVariables false
namespace Go.Ab
@[simp] def cmp_Compare_int.k1 (C : CSem) (N : Nat → Nat) (Q : AVal → AHeap → Prop) (v0 v1 : AVal) (h : AHeap) : Prop :=
  B.call C (N 171) [v0] h fun v8 h =>
    B.call C (N 171) [v1] h fun v10 h =>
    B.cond v8
    (B.cond v10
    (Q (.int .i64 0) h)
    (Q (.int .i64 (-1)) h))
    (B.cond v10
    (Q (.int .i64 1) h)
    (B.pv (V.bin .lss v0 v1) fun v16 =>
    B.cond v16
    (Q (.int .i64 (-1)) h)
    (B.pv (V.bin .gtr v0 v1) fun v19 =>
    B.cond v19
    (Q (.int .i64 1) h)
    (Q (.int .i64 0) h))))
/-- cmp.Compare[int] -/
@[simp] def cmp_Compare_int.cps (C : CSem) (N : Nat → Nat) (v0 v1 : AVal) (h : AHeap) (Q : AVal → AHeap → Prop) : Prop :=
  cmp_Compare_int.k1 C N Q v0 v1 h
def cmp_Compare_int.Imp (C : CSem) (N : Nat → Nat) : Prop := ∀ (v0 v1 : AVal) (h : AHeap) (Q : AVal → AHeap → Prop), cmp_Compare_int.cps C N v0 v1 h (dn Q) → C (N 157) [v0, v1] h Q
@[simp] def cmp_Or_int.k1 (C : CSem) (N : Nat → Nat) (Q : AVal → AHeap → Prop) (Y1 : List AVal → AHeap → Prop) (v3 v6 v7 v8 : AVal) (h : AHeap) : Prop :=
  B.pv (V.bin .lss v8 v7) fun v9 =>
    B.cond v9
    (B.pv (V.idxS 1 v6 v8) fun v10 =>
    B.ld h v10 fun v11 =>
    B.pv (V.bin .neq v11 v3) fun v14 =>
    B.cond v14
    (Q v11 h)
    (B.pv (V.bin .add v8 (.int .i64 1)) fun v16 =>
    Y1 [v16] h))
    (Q v3 h)
@[simp] def cmp_Or_int.l2 (C : CSem) (N : Nat → Nat) (Q : AVal → AHeap → Prop) (v3 v6 v7 : AVal) : List AVal → AHeap → (List AVal → AHeap → Prop) → Prop
  | [v8], h, Y1 => cmp_Or_int.k1 C N Q Y1 v3 v6 v7 v8 h
  | _, _, _ => False
/-- cmp.Or[int] -/
@[simp] def cmp_Or_int.cps (C : CSem) (N : Nat → Nat) (v0 : AVal) (h : AHeap) (Q : AVal → AHeap → Prop) : Prop :=
  B.pv (V.lenSl v0) fun v7 =>
    LoopR (cmp_Or_int.l2 C N Q (.int .i64 0) v0 v7) [(.int .i64 0)] h
def cmp_Or_int.Imp (C : CSem) (N : Nat → Nat) : Prop := ∀ (v0 : AVal) (h : AHeap) (Q : AVal → AHeap → Prop), cmp_Or_int.cps C N v0 h (dn Q) → C (N 158) [v0] h Q
/-- cmp.isNaN[int] -/
@[simp] def cmp_isNaN_int.cps (C : CSem) (N : Nat → Nat) (v0 : AVal) (h : AHeap) (Q : AVal → AHeap → Prop) : Prop :=
  B.pv (V.bin .neq v0 v0) fun v5 =>
    Q v5 h
def cmp_isNaN_int.Imp (C : CSem) (N : Nat → Nat) : Prop := ∀ (v0 : AVal) (h : AHeap) (Q : AVal → AHeap → Prop), cmp_isNaN_int.cps C N v0 h (dn Q) → C (N 171) [v0] h Q
end Go.Ab

/- What is told: residuals: what each function does in the abstract memory, printed by a program of mine. Definitions alone. -/
set_option linter.unusedVariables false
namespace Go.Ab
@[simp] def code_Right.k1 (C : CSem) (N : Nat → Nat) (Q : AVal → AHeap → Prop) (v0 : AVal) (h : AHeap) : Prop :=
  B.pv (V.bin .neq v0 (.str [])) fun v34 =>
    B.gd h v34 true (fun K => K v0 h) fun v36 h =>
    B.gd h v34 true (fun K => B.pv (V.lenStr v36) fun v => K v h) fun v37 h =>
    B.gd h v34 true (fun K => B.pv (V.bin .leq v37 (.int .i64 12)) fun v => K v h) fun v38 h =>
    B.pick v34 v38 (.bool false) fun v39 =>
    Q v39 h
@[simp] def code_Right.k2 (C : CSem) (N : Nat → Nat) (Q : AVal → AHeap → Prop) (Y1 : List AVal → AHeap → Prop) (v0 v6 : AVal) (h : AHeap) : Prop :=
  B.nextStr h v6 fun v7 h =>
    B.pv (V.ext 0 v7) fun v8 =>
    B.cond v8
    (B.pv (V.ext 1 v7) fun v9 =>
    B.pv (V.ext 2 v7) fun v10 =>
    B.pv (V.bin .geq v10 (.int .i32 65)) fun v13 =>
    B.gd h v13 true (fun K => K v10 h) fun v15 h =>
    B.gd h v13 true (fun K => B.pv (V.bin .leq v15 (.int .i32 90)) fun v => K v h) fun v16 h =>
    B.pick v13 v16 (.bool false) fun v17 =>
    B.cond v17
    (Y1 [] h)
    (B.pv (V.bin .gtr v9 (.int .i64 0)) fun v20 =>
    B.gd h v20 true (fun K => K v10 h) fun v22 h =>
    B.gd h v20 true (fun K => B.pv (V.bin .geq v22 (.int .i32 48)) fun v => K v h) fun v23 h =>
    B.gd h v20 true (fun K => K v23 h) fun v24 h =>
    B.gd h v24 true (fun K => K v10 h) fun v25 h =>
    B.gd h v24 true (fun K => B.pv (V.bin .leq v25 (.int .i32 57)) fun v => K v h) fun v26 h =>
    B.gd h v20 true (fun K => B.pick v24 v26 (.bool false) fun v => K v h) fun v27 h =>
    B.gd h v20 true (fun K => K v27 h) fun v28 h =>
    B.gd h v28 false (fun K => K v10 h) fun v29 h =>
    B.gd h v28 false (fun K => B.pv (V.bin .eql v29 (.int .i32 45)) fun v => K v h) fun v30 h =>
    B.gd h v20 true (fun K => B.pick v28 (.bool true) v30 fun v => K v h) fun v31 h =>
    B.pick v20 v31 (.bool false) fun v32 =>
    B.cond v32
    (Y1 [] h)
    (Q (.bool false) h)))
    (code_Right.k1 C N Q v0 h)
@[simp] def code_Right.l3 (C : CSem) (N : Nat → Nat) (Q : AVal → AHeap → Prop) (v0 v6 : AVal) : List AVal → AHeap → (List AVal → AHeap → Prop) → Prop
  | [], h, Y1 => code_Right.k2 C N Q Y1 v0 v6 h
  | _, _, _ => False
/-- storeman/code.Right -/
@[simp] def code_Right.cps (C : CSem) (N : Nat → Nat) (v0 : AVal) (h : AHeap) (Q : AVal → AHeap → Prop) : Prop :=
  B.rangeStr h v0 fun v6 h =>
    LoopR (code_Right.l3 C N Q v0 v6) [] h
def code_Right.Imp (C : CSem) (N : Nat → Nat) : Prop := ∀ (v0 : AVal) (h : AHeap) (Q : AVal → AHeap → Prop), code_Right.cps C N v0 h (dn Q) → C (N 53) [v0] h Q
end Go.Ab

/- What is told: residuals: what each function does in the abstract memory, printed by a program of mine. Definitions alone. -/
set_option linter.unusedVariables false
namespace Go.Ab
@[simp] def kit_SameLots.k3 (C : CSem) (N : Nat → Nat) (Q : AVal → AHeap → Prop) (v0 v1 : AVal) (h : AHeap) : Prop :=
  B.pv (V.lenSl v0) fun v7 =>
    B.pv (V.lenSl v1) fun v9 =>
    B.pv (V.bin .neq v7 v9) fun v10 =>
    B.cond v10
    (Q (.bool false) h)
    (LoopR (sameG.l4 6 [.i .i64, .s, .i .i64, .i .i64, .i .i64, .b] Q v0 v1) [(.int .i64 0)] h)
/-- storeman/storemankit.SameLots -/
def kit_SameLots.cps (C : CSem) (N : Nat → Nat) (v0 v1 : AVal) (h : AHeap) (Q : AVal → AHeap → Prop) : Prop :=
  kit_SameLots.k3 C N Q v0 v1 h
def kit_SameLots.Imp (C : CSem) (N : Nat → Nat) : Prop := ∀ (v0 v1 : AVal) (h : AHeap) (Q : AVal → AHeap → Prop), kit_SameLots.cps C N v0 v1 h (dn Q) → C (N 74) [v0, v1] h Q
@[simp] def kit_Pick.k1 (C : CSem) (N : Nat → Nat) (Q : AVal → AHeap → Prop) (v0 v1 : AVal) (h : AHeap) : Prop :=
  B.pv (V.bin .lss v1 (.int .i64 1)) fun v6 =>
    B.cond v6
    (Q (.int .i64 0) h)
    (B.pv (V.bin .rem v0 v1) fun v9 =>
    B.pv (V.bin .lss v9 (.int .i64 0)) fun v11 =>
    B.cond v11
    (B.pv (V.bin .add v9 v1) fun v14 =>
    Q v14 h)
    (Q v9 h))
/-- storeman/storemankit.Pick -/
@[simp] def kit_Pick.cps (C : CSem) (N : Nat → Nat) (v0 v1 : AVal) (h : AHeap) (Q : AVal → AHeap → Prop) : Prop :=
  kit_Pick.k1 C N Q v0 v1 h
def kit_Pick.Imp (C : CSem) (N : Nat → Nat) : Prop := ∀ (v0 v1 : AVal) (h : AHeap) (Q : AVal → AHeap → Prop), kit_Pick.cps C N v0 v1 h (dn Q) → C (N 155) [v0, v1] h Q
end Go.Ab

/- What is told: residuals: what each function does in the abstract memory, printed by a program of mine. Definitions alone. -/
set_option linter.unusedVariables false
namespace Go.Ab
@[simp] def law04_awake.k1 (C : CSem) (N : Nat → Nat) (Q : AVal → AHeap → Prop) (h : AHeap) : Prop :=
  B.call C (N 159) [] h fun v4 h =>
    B.call C (N 149) [v4] h fun v5 h =>
    B.call C (N 159) [] h fun v7 h =>
    B.call C (N 154) [v7, (.int .i64 6)] h fun v8 h =>
    B.pv (V.ext 0 v8) fun v9 =>
    B.pv (V.ext 1 v8) fun v10 =>
    B.pv (V.lenSl v5) fun v12 =>
    B.pv (V.bin .eql v12 (.int .i64 3)) fun v13 =>
    B.gd h v13 true (fun K => K v5 h) fun v15 h =>
    B.gd h v13 true (fun K => B.pv (V.idxS 6 v15 (.int .i64 0)) fun v => K v h) fun v16 h =>
    B.gd h v13 true (fun K => B.pv (V.fieldAddr 0 v16) fun v => K v h) fun v17 h =>
    B.gd h v13 true (fun K => B.ld h v17 fun v => K v h) fun v18 h =>
    B.gd h v13 true (fun K => B.pv (V.bin .eql v18 (.int .i64 2)) fun v => K v h) fun v19 h =>
    B.pick v13 v19 (.bool false) fun v20 =>
    B.gd h v20 true (fun K => K v5 h) fun v22 h =>
    B.gd h v20 true (fun K => B.pv (V.idxS 6 v22 (.int .i64 1)) fun v => K v h) fun v23 h =>
    B.gd h v20 true (fun K => B.pv (V.fieldAddr 0 v23) fun v => K v h) fun v24 h =>
    B.gd h v20 true (fun K => B.ld h v24 fun v => K v h) fun v25 h =>
    B.gd h v20 true (fun K => B.pv (V.bin .eql v25 (.int .i64 3)) fun v => K v h) fun v26 h =>
    B.pick v20 v26 (.bool false) fun v27 =>
    B.gd h v27 true (fun K => K v5 h) fun v29 h =>
    B.gd h v27 true (fun K => B.pv (V.idxS 6 v29 (.int .i64 2)) fun v => K v h) fun v30 h =>
    B.gd h v27 true (fun K => B.pv (V.fieldAddr 0 v30) fun v => K v h) fun v31 h =>
    B.gd h v27 true (fun K => B.ld h v31 fun v => K v h) fun v32 h =>
    B.gd h v27 true (fun K => B.pv (V.bin .eql v32 (.int .i64 1)) fun v => K v h) fun v33 h =>
    B.pick v27 v33 (.bool false) fun v34 =>
    B.gd h v34 true (fun K => K v9 h) fun v36 h =>
    B.gd h v34 true (fun K => B.pv (V.lenSl v36) fun v => K v h) fun v37 h =>
    B.gd h v34 true (fun K => B.pv (V.bin .eql v37 (.int .i64 2)) fun v => K v h) fun v38 h =>
    B.pick v34 v38 (.bool false) fun v39 =>
    B.gd h v39 true (fun K => K v10 h) fun v41 h =>
    B.gd h v39 true (fun K => B.pv (V.lenSl v41) fun v => K v h) fun v42 h =>
    B.gd h v39 true (fun K => B.pv (V.bin .eql v42 (.int .i64 1)) fun v => K v h) fun v43 h =>
    B.pick v39 v43 (.bool false) fun v44 =>
    B.gd h v44 true (fun K => K v10 h) fun v46 h =>
    B.gd h v44 true (fun K => B.pv (V.idxS 6 v46 (.int .i64 0)) fun v => K v h) fun v47 h =>
    B.gd h v44 true (fun K => B.pv (V.fieldAddr 0 v47) fun v => K v h) fun v48 h =>
    B.gd h v44 true (fun K => B.ld h v48 fun v => K v h) fun v49 h =>
    B.gd h v44 true (fun K => B.pv (V.bin .eql v49 (.int .i64 3)) fun v => K v h) fun v50 h =>
    B.pick v44 v50 (.bool false) fun v51 =>
    B.gd h v51 true (fun K => B.call C (N 159) [] h K) fun v53 h =>
    B.gd h v51 true (fun K => B.call C (N 152) [v53, (.int .i64 4)] h K) fun v54 h =>
    B.gd h v51 true (fun K => B.pv (V.bin .eql v54 (.int .i64 11)) fun v => K v h) fun v55 h =>
    B.pick v51 v55 (.bool false) fun v56 =>
    B.gd h v56 true (fun K => B.call C (N 159) [] h K) fun v58 h =>
    B.gd h v56 true (fun K => B.call C (N 152) [v58, (.int .i64 9)] h K) fun v59 h =>
    B.gd h v56 true (fun K => B.pv (V.bin .eql v59 (.int .i64 0)) fun v => K v h) fun v60 h =>
    B.pick v56 v60 (.bool false) fun v61 =>
    B.gd h v61 true (fun K => K v5 h) fun v63 h =>
    B.gd h v61 true (fun K => B.pv (V.idxS 6 v63 (.int .i64 0)) fun v => K v h) fun v64 h =>
    B.gd h v61 true (fun K => B.ldn h v64 6 fun v => K v h) fun v65 h =>
    B.gd h v61 true (fun K => B.call C (N 52) [v65] h K) fun v66 h =>
    B.pick v61 v66 (.bool false) fun v67 =>
    B.gd h v67 true (fun K => B.pv (A.bld [] [.int .i64 0, .str [], .int .i64 0, .int .i64 0, .int .i64 0, .bool false]) fun v => K v h) fun v69 h =>
    B.gd h v67 true (fun K => B.call C (N 52) [v69] h K) fun v70 h =>
    B.gd h v67 true (fun K => B.pv (V.un .not v70) fun v => K v h) fun v71 h =>
    B.pick v67 v71 (.bool false) fun v72 =>
    B.gd h v72 true (fun K => K v5 h) fun v74 h =>
    B.gd h v72 true (fun K => B.call C (N 153) [v74, (.str [66])] h K) fun v75 h =>
    B.gd h v72 true (fun K => B.pv (V.lenSl v75) fun v => K v h) fun v76 h =>
    B.gd h v72 true (fun K => B.pv (V.bin .eql v76 (.int .i64 1)) fun v => K v h) fun v77 h =>
    B.pick v72 v77 (.bool false) fun v78 =>
    Q v78 h
/-- storeman/storemanlaw04.awake -/
@[simp] def law04_awake.cps (C : CSem) (N : Nat → Nat) (h : AHeap) (Q : AVal → AHeap → Prop) : Prop :=
  law04_awake.k1 C N Q h
def law04_awake.Imp (C : CSem) (N : Nat → Nat) : Prop := ∀ (h : AHeap) (Q : AVal → AHeap → Prop), law04_awake.cps C N h (dn Q) → C (N 146) [] h Q
@[simp] def law04_great.k1 (C : CSem) (N : Nat → Nat) (Q : AVal → AHeap → Prop) (Y1 : List AVal → AHeap → Prop) (v0 v3 v4 : AVal) (h : AHeap) : Prop :=
  B.pv (V.lenSl v0) fun v9 =>
    B.pv (V.bin .lss v4 v9) fun v10 =>
    B.gd h v10 true (fun K => K v3 h) fun v12 h =>
    B.gd h v10 true (fun K => B.pv (V.bin .leq v12 (.int .i64 400)) fun v => K v h) fun v13 h =>
    B.pick v10 v13 (.bool false) fun v14 =>
    B.cond v14
    (B.pv (V.idxS 6 v0 v4) fun v20 =>
    B.pv (V.fieldAddr 1 v20) fun v21 =>
    B.ld h v21 fun v22 =>
    B.pv (V.lenStr v22) fun v23 =>
    B.pv (V.bin .quo v23 (.int .i64 50)) fun v24 =>
    B.pv (V.bin .add v3 v24) fun v25 =>
    B.pv (V.bin .add v4 (.int .i64 1)) fun v16 =>
    Y1 [v25, v16] h)
    (B.pv (V.bin .gtr v3 (.int .i64 400)) fun v27 =>
    Q v27 h)
@[simp] def law04_great.l2 (C : CSem) (N : Nat → Nat) (Q : AVal → AHeap → Prop) (v0 : AVal) : List AVal → AHeap → (List AVal → AHeap → Prop) → Prop
  | [v3, v4], h, Y1 => law04_great.k1 C N Q Y1 v0 v3 v4 h
  | _, _, _ => False
/-- storeman/storemanlaw04.great -/
@[simp] def law04_great.cps (C : CSem) (N : Nat → Nat) (v0 : AVal) (h : AHeap) (Q : AVal → AHeap → Prop) : Prop :=
  B.pv (V.lenSl v0) fun v6 =>
    LoopR (law04_great.l2 C N Q v0) [v6, (.int .i64 0)] h
def law04_great.Imp (C : CSem) (N : Nat → Nat) : Prop := ∀ (v0 : AVal) (h : AHeap) (Q : AVal → AHeap → Prop), law04_great.cps C N v0 h (dn Q) → C (N 150) [v0] h Q
@[simp] def law04_LotSwept.k1 (C : CSem) (N : Nat → Nat) (Q : AVal → AHeap → Prop) (Y1 : List AVal → AHeap → Prop) (v0 v1 v14 v15 v16 : AVal) (h : AHeap) : Prop :=
  B.pv (V.un .not v16) fun v114 =>
    B.cond v114
    (B.pv (V.idxS 6 v0 v15) fun v119 =>
    B.pv (V.fieldAddr 1 v119) fun v120 =>
    B.ld h v120 fun v121 =>
    B.call C (N 153) [v0, v121] h fun v122 h =>
    B.call C (N 152) [v122, v1] h fun v124 h =>
    B.pv (V.bin .add v14 v124) fun v125 =>
    B.pv (V.bin .add v15 (.int .i64 1)) fun v93 =>
    Y1 [v125, v93] h)
    (B.pv (V.bin .add v15 (.int .i64 1)) fun v93 =>
    Y1 [v14, v93] h)
@[simp] def law04_LotSwept.k2 (C : CSem) (N : Nat → Nat) (Q : AVal → AHeap → Prop) (Y1 : List AVal → AHeap → Prop) (Y2 : List AVal → AHeap → Prop) (v0 v1 v14 v15 v16 v17 : AVal) (h : AHeap) : Prop :=
  B.pv (V.bin .lss v17 v15) fun v96 =>
    B.cond v96
    (B.gd h v16 false (fun K => K v0 h) fun v101 h =>
    B.gd h v16 false (fun K => K v17 h) fun v102 h =>
    B.gd h v16 false (fun K => B.pv (V.idxS 6 v101 v102) fun v => K v h) fun v103 h =>
    B.gd h v16 false (fun K => B.pv (V.fieldAddr 1 v103) fun v => K v h) fun v104 h =>
    B.gd h v16 false (fun K => B.ld h v104 fun v => K v h) fun v105 h =>
    B.gd h v16 false (fun K => K v0 h) fun v106 h =>
    B.gd h v16 false (fun K => K v15 h) fun v107 h =>
    B.gd h v16 false (fun K => B.pv (V.idxS 6 v106 v107) fun v => K v h) fun v108 h =>
    B.gd h v16 false (fun K => B.pv (V.fieldAddr 1 v108) fun v => K v h) fun v109 h =>
    B.gd h v16 false (fun K => B.ld h v109 fun v => K v h) fun v110 h =>
    B.gd h v16 false (fun K => B.pv (V.bin .eql v105 v110) fun v => K v h) fun v111 h =>
    B.pick v16 (.bool true) v111 fun v112 =>
    B.pv (V.bin .add v17 (.int .i64 1)) fun v98 =>
    Y2 [v112, v98] h)
    (law04_LotSwept.k1 C N Q Y1 v0 v1 v14 v15 v16 h)
@[simp] def law04_LotSwept.l3 (C : CSem) (N : Nat → Nat) (Q : AVal → AHeap → Prop) (Y1 : List AVal → AHeap → Prop) (v0 v1 v14 v15 : AVal) : List AVal → AHeap → (List AVal → AHeap → Prop) → Prop
  | [v16, v17], h, Y2 => law04_LotSwept.k2 C N Q Y1 Y2 v0 v1 v14 v15 v16 v17 h
  | _, _, _ => False
@[simp] def law04_LotSwept.k4 (C : CSem) (N : Nat → Nat) (Q : AVal → AHeap → Prop) (Y1 : List AVal → AHeap → Prop) (v0 v1 v14 v15 : AVal) (h : AHeap) : Prop :=
  B.pv (V.lenSl v0) fun v90 =>
    B.pv (V.bin .lss v15 v90) fun v91 =>
    B.cond v91
    (LoopR (law04_LotSwept.l3 C N Q Y1 v0 v1 v14 v15) [(.bool false), (.int .i64 0)] h)
    (B.call C (N 152) [v0, v1] h fun v129 h =>
    B.pv (V.bin .eql v14 v129) fun v130 =>
    Q v130 h)
@[simp] def law04_LotSwept.l5 (C : CSem) (N : Nat → Nat) (Q : AVal → AHeap → Prop) (v0 v1 : AVal) : List AVal → AHeap → (List AVal → AHeap → Prop) → Prop
  | [v14, v15], h, Y1 => law04_LotSwept.k4 C N Q Y1 v0 v1 v14 v15 h
  | _, _, _ => False
@[simp] def law04_LotSwept.k6 (C : CSem) (N : Nat → Nat) (Q : AVal → AHeap → Prop) (v0 v1 v8 v11 v13 : AVal) (h : AHeap) : Prop :=
  B.pv (V.bin .leq v11 v1) fun v80 =>
    B.gd h v80 true (fun K => K v13 h) fun v82 h =>
    B.gd h v80 true (fun K => B.pv (V.lenSl v82) fun v => K v h) fun v83 h =>
    B.gd h v80 true (fun K => K v8 h) fun v84 h =>
    B.gd h v80 true (fun K => B.pv (V.lenSl v84) fun v => K v h) fun v85 h =>
    B.gd h v80 true (fun K => B.pv (V.bin .gtr v83 v85) fun v => K v h) fun v86 h =>
    B.pick v80 v86 (.bool false) fun v87 =>
    B.cond v87
    (Q (.bool false) h)
    (LoopR (law04_LotSwept.l5 C N Q v0 v1) [(.int .i64 0), (.int .i64 0)] h)
@[simp] def law04_LotSwept.k7 (C : CSem) (N : Nat → Nat) (Q : AVal → AHeap → Prop) (v0 v1 v2 v8 : AVal) (h : AHeap) : Prop :=
  B.call C (N 155) [v2, (.int .i64 1000)] h fun v70 h =>
    B.pv (V.bin .sub v1 v70) fun v71 =>
    B.call C (N 154) [v0, v71] h fun v75 h =>
    B.pv (V.ext 0 v75) fun v76 =>
    B.pv (V.ext 1 v75) fun v77 =>
    law04_LotSwept.k6 C N Q v0 v1 v8 v71 v77 h
@[simp] def law04_LotSwept.k8 (C : CSem) (N : Nat → Nat) (Q : AVal → AHeap → Prop) (v0 v1 v2 v7 v8 v9 v10 : AVal) (h : AHeap) : Prop :=
  B.pv (V.lenSl v7) fun v35 =>
    B.pv (V.lenSl v8) fun v37 =>
    B.pv (V.bin .add v35 v37) fun v38 =>
    B.pv (V.lenSl v0) fun v40 =>
    B.pv (V.bin .neq v38 v40) fun v41 =>
    B.gd h v41 false (fun K => K v10 h) fun v43 h =>
    B.gd h v41 false (fun K => B.pv (V.lenSl v43) fun v => K v h) fun v44 h =>
    B.gd h v41 false (fun K => B.pv (V.bin .gtr v44 (.int .i64 0)) fun v => K v h) fun v45 h =>
    B.pick v41 (.bool true) v45 fun v46 =>
    B.gd h v46 false (fun K => K v9 h) fun v48 h =>
    B.gd h v46 false (fun K => K v7 h) fun v49 h =>
    B.gd h v46 false (fun K => B.call C (N 74) [v48, v49] h K) fun v50 h =>
    B.gd h v46 false (fun K => B.pv (V.un .not v50) fun v => K v h) fun v51 h =>
    B.pick v46 (.bool true) v51 fun v52 =>
    B.gd h v52 false (fun K => K v8 h) fun v54 h =>
    B.gd h v52 false (fun K => K v1 h) fun v55 h =>
    B.gd h v52 false (fun K => B.call C (N 152) [v54, v55] h K) fun v56 h =>
    B.gd h v52 false (fun K => B.pv (V.bin .neq v56 (.int .i64 0)) fun v => K v h) fun v57 h =>
    B.pick v52 (.bool true) v57 fun v58 =>
    B.gd h v58 false (fun K => K v7 h) fun v60 h =>
    B.gd h v58 false (fun K => K v1 h) fun v61 h =>
    B.gd h v58 false (fun K => B.call C (N 152) [v60, v61] h K) fun v62 h =>
    B.gd h v58 false (fun K => K v0 h) fun v63 h =>
    B.gd h v58 false (fun K => K v1 h) fun v64 h =>
    B.gd h v58 false (fun K => B.call C (N 152) [v63, v64] h K) fun v65 h =>
    B.gd h v58 false (fun K => B.pv (V.bin .neq v62 v65) fun v => K v h) fun v66 h =>
    B.pick v58 (.bool true) v66 fun v67 =>
    B.cond v67
    (Q (.bool false) h)
    (law04_LotSwept.k7 C N Q v0 v1 v2 v8 h)
@[simp] def law04_LotSwept.k9 (C : CSem) (N : Nat → Nat) (Q : AVal → AHeap → Prop) (v0 v1 v2 v7 v8 : AVal) (h : AHeap) : Prop :=
  B.call C (N 154) [v7, v1] h fun v31 h =>
    B.pv (V.ext 0 v31) fun v32 =>
    B.pv (V.ext 1 v31) fun v33 =>
    law04_LotSwept.k8 C N Q v0 v1 v2 v7 v8 v32 v33 h
@[simp] def law04_LotSwept.k10 (C : CSem) (N : Nat → Nat) (Q : AVal → AHeap → Prop) (v0 v1 v2 : AVal) (h : AHeap) : Prop :=
  B.call C (N 150) [v0] h fun v21 h =>
    B.cond v21
    (Q (.bool true) h)
    (B.call C (N 154) [v0, v1] h fun v25 h =>
    B.pv (V.ext 0 v25) fun v26 =>
    B.pv (V.ext 1 v25) fun v27 =>
    law04_LotSwept.k9 C N Q v0 v1 v2 v26 v27 h)
/-- storeman/storemanlaw04.LotSwept -/
@[simp] def law04_LotSwept.cps (C : CSem) (N : Nat → Nat) (v0 v1 v2 : AVal) (h : AHeap) (Q : AVal → AHeap → Prop) : Prop :=
  B.call C (N 146) [] h fun v18 h =>
    B.pv (V.un .not v18) fun v19 =>
    B.cond v19
    (Q (.bool false) h)
    (law04_LotSwept.k10 C N Q v0 v1 v2 h)
def law04_LotSwept.Imp (C : CSem) (N : Nat → Nat) : Prop := ∀ (v0 v1 v2 : AVal) (h : AHeap) (Q : AVal → AHeap → Prop), law04_LotSwept.cps C N v0 v1 v2 h (dn Q) → C (N 156) [v0, v1, v2] h Q
@[simp] def law04_three.k1 (C : CSem) (N : Nat → Nat) (Q : AVal → AHeap → Prop) (h : AHeap) : Prop :=
  B.pv (A.bld [(0, none, (.int .i64 0)), (1, none, (.int .i64 9))] [.int .i64 0, .int .i64 0]) fun v1 =>
    B.pv (A.bld [(0, none, (.int .i64 1)), (1, none, (.str [65])), (2, some 2, v1), (4, none, (.int .i64 5)), (5, none, (.bool true))] [.int .i64 0, .str [], .int .i64 0, .int .i64 0, .int .i64 0, .bool false]) fun v2 =>
    B.pv (A.bld [(0, none, (.int .i64 3)), (1, none, (.int .i64 6))] [.int .i64 0, .int .i64 0]) fun v3 =>
    B.pv (A.bld [(0, none, (.int .i64 2)), (1, none, (.str [65])), (2, some 2, v3), (4, none, (.int .i64 4))] [.int .i64 0, .str [], .int .i64 0, .int .i64 0, .int .i64 0, .bool false]) fun v4 =>
    B.pv (A.bld [(0, none, (.int .i64 0)), (1, none, (.int .i64 6))] [.int .i64 0, .int .i64 0]) fun v5 =>
    B.pv (A.bld [(0, none, (.int .i64 3)), (1, none, (.str [66])), (2, some 2, v5), (4, none, (.int .i64 2)), (5, none, (.bool true))] [.int .i64 0, .str [], .int .i64 0, .int .i64 0, .int .i64 0, .bool false]) fun v6 =>
    B.newO h (fillL [(0, some 6, v2), (6, some 6, v4), (12, some 6, v6)] (repL 3 [.int .i64 0, .str [], .int .i64 0, .int .i64 0, .int .i64 0, .bool false])) fun i7 h =>
    Q (.sl i7 0 0 3 6 3) h
/-- storeman/storemanlaw04.three -/
@[simp] def law04_three.cps (C : CSem) (N : Nat → Nat) (h : AHeap) (Q : AVal → AHeap → Prop) : Prop :=
  law04_three.k1 C N Q h
def law04_three.Imp (C : CSem) (N : Nat → Nat) : Prop := ∀ (h : AHeap) (Q : AVal → AHeap → Prop), law04_three.cps C N h (dn Q) → C (N 159) [] h Q
end Go.Ab

/- What is told: residuals: what each function does in the abstract memory, printed by a program of mine. Definitions alone. -/
set_option linter.unusedVariables false
namespace Go.Ab
@[simp] def lot_Right.k1 (C : CSem) (N : Nat → Nat) (Q : AVal → AHeap → Prop) (v0 : AVal) (h : AHeap) : Prop :=
  B.pv (A.boxN 6 v0) fun c1 =>
    B.al c1 (B.pv (V.field1 0 c1) fun v4 =>
    B.pv (V.bin .gtr v4 (.int .i64 0)) fun v5 =>
    B.al c1 (B.gd h v5 true (fun K => K .undef h) fun _ h =>
    B.gd h v5 true (fun K => B.pv (V.field1 1 c1) fun v => K v h) fun v8 h =>
    B.gd h v5 true (fun K => B.call C (N 53) [v8] h K) fun v9 h =>
    B.pick v5 v9 (.bool false) fun v10 =>
    B.al c1 (B.gd h v10 true (fun K => K .undef h) fun _ h =>
    B.gd h v10 true (fun K => B.pv (V.fieldN 2 2 c1) fun v => K v h) fun v13 h =>
    B.gd h v10 true (fun K => B.call C (N 5) [v13] h K) fun v14 h =>
    B.pick v10 v14 (.bool false) fun v15 =>
    B.al c1 (B.gd h v15 true (fun K => K .undef h) fun _ h =>
    B.al c1 (B.gd h v15 true (fun K => K .undef h) fun _ h =>
    B.gd h v15 true (fun K => B.pv (V.field1 2 c1) fun v => K v h) fun v19 h =>
    B.al c1 (B.gd h v15 true (fun K => K .undef h) fun _ h =>
    B.al c1 (B.gd h v15 true (fun K => K .undef h) fun _ h =>
    B.gd h v15 true (fun K => B.pv (V.field1 3 c1) fun v => K v h) fun v22 h =>
    B.gd h v15 true (fun K => B.pv (V.bin .lss v19 v22) fun v => K v h) fun v23 h =>
    B.pick v15 v23 (.bool false) fun v24 =>
    B.al c1 (B.gd h v24 true (fun K => K .undef h) fun _ h =>
    B.gd h v24 true (fun K => B.pv (V.field1 4 c1) fun v => K v h) fun v27 h =>
    B.gd h v24 true (fun K => B.pv (V.bin .gtr v27 (.int .i64 0)) fun v => K v h) fun v28 h =>
    B.pick v24 v28 (.bool false) fun v29 =>
    B.al c1 (B.gd h v29 true (fun K => K .undef h) fun _ h =>
    B.gd h v29 true (fun K => B.pv (V.field1 4 c1) fun v => K v h) fun v32 h =>
    B.gd h v29 true (fun K => B.pv (V.bin .leq v32 (.int .i64 1073741824)) fun v => K v h) fun v33 h =>
    B.pick v29 v33 (.bool false) fun v34 =>
    Q v34 h)))))))))
/-- storeman/lot.Right -/
@[simp] def lot_Right.cps (C : CSem) (N : Nat → Nat) (v0 : AVal) (h : AHeap) (Q : AVal → AHeap → Prop) : Prop :=
  lot_Right.k1 C N Q v0 h
def lot_Right.Imp (C : CSem) (N : Nat → Nat) : Prop := ∀ (v0 : AVal) (h : AHeap) (Q : AVal → AHeap → Prop), lot_Right.cps C N v0 h (dn Q) → C (N 52) [v0] h Q
@[simp] def lot_Compare.k1 (C : CSem) (N : Nat → Nat) (Q : AVal → AHeap → Prop) (v0 v1 : AVal) (h : AHeap) : Prop :=
  B.pv (A.boxN 6 v0) fun c2 =>
    B.pv (A.boxN 6 v1) fun c3 =>
    B.al c2 (B.al c2 (B.pv (V.field1 3 c2) fun v7 =>
    B.al c3 (B.al c3 (B.pv (V.field1 3 c3) fun v10 =>
    B.al c2 (B.pv (V.field1 0 c2) fun v13 =>
    B.al c3 (B.pv (V.field1 0 c3) fun v15 =>
    B.call C (N 157) [v7, v10] h fun v11 h =>
    B.call C (N 157) [v13, v15] h fun v16 h =>
    B.newO h (fillL [(0, none, v11), (1, none, v16)] (repL 2 [.int .i64 0])) fun i17 h =>
    B.call C (N 158) [(.sl i17 0 0 2 1 2)] h fun v18 h =>
    Q v18 h))))))
/-- storeman/lot.Compare -/
@[simp] def lot_Compare.cps (C : CSem) (N : Nat → Nat) (v0 v1 : AVal) (h : AHeap) (Q : AVal → AHeap → Prop) : Prop :=
  lot_Compare.k1 C N Q v0 v1 h
def lot_Compare.Imp (C : CSem) (N : Nat → Nat) : Prop := ∀ (v0 v1 : AVal) (h : AHeap) (Q : AVal → AHeap → Prop), lot_Compare.cps C N v0 v1 h (dn Q) → C (N 144) [v0, v1] h Q
/-- storeman/lot.Sort -/
@[simp] def lot_Sort.cps (C : CSem) (N : Nat → Nat) (v0 : AVal) (h : AHeap) (Q : AVal → AHeap → Prop) : Prop :=
  B.call C (N 160) [v0] h fun v5 h =>
    B.call C (N 161) [v5, (.fn (N 144) [] [])] h fun v7 h =>
    Q v5 h
def lot_Sort.Imp (C : CSem) (N : Nat → Nat) : Prop := ∀ (v0 : AVal) (h : AHeap) (Q : AVal → AHeap → Prop), lot_Sort.cps C N v0 h (dn Q) → C (N 149) [v0] h Q
@[simp] def lot_On.k1 (C : CSem) (N : Nat → Nat) (Q : AVal → AHeap → Prop) (Y1 : List AVal → AHeap → Prop) (v1 v5 v9 v10 v11 : AVal) (h : AHeap) : Prop :=
  B.pv (V.bin .lss v11 v10) fun v12 =>
    B.cond v12
    (B.pv (V.idxS 6 v9 v11) fun v13 =>
    B.ldn h v13 6 fun v14 =>
    B.pv (V.setN 0 6 v14 (.agg [.int .i64 0, .str [], .int .i64 0, .int .i64 0, .int .i64 0, .bool false])) fun c7 =>
    B.al c7 (B.pv (V.fieldN 2 2 c7) fun v16 =>
    B.call C (N 7) [v16, v1] h fun v18 h =>
    B.cond v18
    (B.al c7 (B.pv (V.field1 4 c7) fun v21 =>
    B.pv (V.bin .add v5 v21) fun v22 =>
    B.pv (V.bin .add v11 (.int .i64 1)) fun v23 =>
    Y1 [v22, v23] h))
    (B.pv (V.bin .add v11 (.int .i64 1)) fun v23 =>
    Y1 [v5, v23] h)))
    (Q v5 h)
@[simp] def lot_On.l2 (C : CSem) (N : Nat → Nat) (Q : AVal → AHeap → Prop) (v1 v9 v10 : AVal) : List AVal → AHeap → (List AVal → AHeap → Prop) → Prop
  | [v5, v11], h, Y1 => lot_On.k1 C N Q Y1 v1 v5 v9 v10 v11 h
  | _, _, _ => False
/-- storeman/lot.On -/
@[simp] def lot_On.cps (C : CSem) (N : Nat → Nat) (v0 v1 : AVal) (h : AHeap) (Q : AVal → AHeap → Prop) : Prop :=
  B.call C (N 164) [v0, (.fn (N 52) [] [])] h fun v9 h =>
    B.pv (V.lenSl v9) fun v10 =>
    LoopR (lot_On.l2 C N Q v1 v9 v10) [(.int .i64 0), (.int .i64 0)] h
def lot_On.Imp (C : CSem) (N : Nat → Nat) : Prop := ∀ (v0 v1 : AVal) (h : AHeap) (Q : AVal → AHeap → Prop), lot_On.cps C N v0 v1 h (dn Q) → C (N 152) [v0, v1] h Q
/-- storeman/lot.Of -/
@[simp] def lot_Of.cps (C : CSem) (N : Nat → Nat) (v0 v1 : AVal) (h : AHeap) (Q : AVal → AHeap → Prop) : Prop :=
  B.newO h (A.cells1 v1) fun i3 h =>
    B.call C (N 164) [v0, (.fn (N 165) [] [(.ptr i3 0 0)])] h fun v7 h =>
    Q v7 h
def lot_Of.Imp (C : CSem) (N : Nat → Nat) : Prop := ∀ (v0 v1 : AVal) (h : AHeap) (Q : AVal → AHeap → Prop), lot_Of.cps C N v0 v1 h (dn Q) → C (N 153) [v0, v1] h Q
@[simp] def lot_Sweep.k1 (C : CSem) (N : Nat → Nat) (Q : AVal → AHeap → Prop) (v0 v1 : AVal) (h : AHeap) : Prop :=
  B.newO h (A.cells1 v1) fun i3 h =>
    B.newO h (some [.nilf]) fun i6 h =>
    B.st h (.ptr i6 0 0) (.fn (N 162) [] [(.ptr i3 0 0)]) fun h =>
    B.ld h (.ptr i6 0 0) fun v12 =>
    B.call C (N 164) [v0, (.fn (N 163) [] [(.ptr i6 0 0)])] h (B.keepS h [((.ptr i6 0 0), none)] (fun v10 h => B.call C (N 164) [v0, v12] h fun v13 h =>
    Q (.tup [v10, v13]) h))
/-- storeman/lot.Sweep -/
@[simp] def lot_Sweep.cps (C : CSem) (N : Nat → Nat) (v0 v1 : AVal) (h : AHeap) (Q : AVal → AHeap → Prop) : Prop :=
  lot_Sweep.k1 C N Q v0 v1 h
def lot_Sweep.Imp (C : CSem) (N : Nat → Nat) : Prop := ∀ (v0 v1 : AVal) (h : AHeap) (Q : AVal → AHeap → Prop), lot_Sweep.cps C N v0 v1 h (dn Q) → C (N 154) [v0, v1] h Q
@[simp] def lot_Sweep_1.k1 (C : CSem) (N : Nat → Nat) (Q : AVal → AHeap → Prop) (v0 v1 : AVal) (h : AHeap) : Prop :=
  B.pv (A.boxN 6 v0) fun c2 =>
    B.al c2 (B.pv (V.field1 5 c2) fun v5 =>
    B.al c2 (B.gd h v5 true (fun K => K .undef h) fun _ h =>
    B.al c2 (B.gd h v5 true (fun K => K .undef h) fun _ h =>
    B.gd h v5 true (fun K => B.pv (V.field1 3 c2) fun v => K v h) fun v9 h =>
    B.gd h v5 true (fun K => B.ld h v1 fun v => K v h) fun v10 h =>
    B.gd h v5 true (fun K => B.pv (V.bin .leq v9 v10) fun v => K v h) fun v11 h =>
    B.pick v5 v11 (.bool false) fun v12 =>
    Q v12 h)))
/-- storeman/lot.Sweep$1 -/
@[simp] def lot_Sweep_1.cps (C : CSem) (N : Nat → Nat) (v0 v1 : AVal) (h : AHeap) (Q : AVal → AHeap → Prop) : Prop :=
  lot_Sweep_1.k1 C N Q v0 v1 h
def lot_Sweep_1.Imp (C : CSem) (N : Nat → Nat) : Prop := ∀ (v0 v1 : AVal) (h : AHeap) (Q : AVal → AHeap → Prop), lot_Sweep_1.cps C N v0 v1 h (dn Q) → C (N 162) [v0, v1] h Q
@[simp] def lot_Sweep_2.k1 (C : CSem) (N : Nat → Nat) (Q : AVal → AHeap → Prop) (v0 v1 : AVal) (h : AHeap) : Prop :=
  B.pv (A.boxN 6 v0) fun c2 =>
    B.ld h v1 fun v4 =>
    B.pv (V.fieldN 0 6 c2) fun v5 =>
    B.callv h C v4 [v5] fun v6 h =>
    B.pv (V.un .not v6) fun v7 =>
    Q v7 h
/-- storeman/lot.Sweep$2 -/
@[simp] def lot_Sweep_2.cps (C : CSem) (N : Nat → Nat) (v0 v1 : AVal) (h : AHeap) (Q : AVal → AHeap → Prop) : Prop :=
  lot_Sweep_2.k1 C N Q v0 v1 h
def lot_Sweep_2.Imp (C : CSem) (N : Nat → Nat) : Prop := ∀ (v0 v1 : AVal) (h : AHeap) (Q : AVal → AHeap → Prop), lot_Sweep_2.cps C N v0 v1 h (dn Q) → C (N 163) [v0, v1] h Q
@[simp] def lot_some_api_Lot.k1 (C : CSem) (N : Nat → Nat) (Q : AVal → AHeap → Prop) (Y1 : List AVal → AHeap → Prop) (v1 v5 v8 v9 v10 : AVal) (h : AHeap) : Prop :=
  B.pv (V.bin .lss v10 v9) fun v11 =>
    B.cond v11
    (B.pv (V.idxS 6 v8 v10) fun v12 =>
    B.ldn h v12 6 fun v13 =>
    B.pv (V.setN 0 6 v13 (.agg [.int .i64 0, .str [], .int .i64 0, .int .i64 0, .int .i64 0, .bool false])) fun c7 =>
    B.pv (V.fieldN 0 6 c7) fun v15 =>
    B.callv h C v1 [v15] fun v16 h =>
    B.cond v16
    (B.pv (V.fieldN 0 6 c7) fun v18 =>
    B.newO h (fillL [(0, some 6, v18)] (repL 1 [.int .i64 0, .str [], .int .i64 0, .int .i64 0, .int .i64 0, .bool false])) fun i19 h =>
    B.appW h 6 56 v5 (.sl i19 0 0 1 6 1) fun v20 h =>
    B.pv (V.bin .add v10 (.int .i64 1)) fun v21 =>
    Y1 [v20, v21] h)
    (B.pv (V.bin .add v10 (.int .i64 1)) fun v21 =>
    Y1 [v5, v21] h))
    (Q v5 h)
@[simp] def lot_some_api_Lot.l2 (C : CSem) (N : Nat → Nat) (Q : AVal → AHeap → Prop) (v1 v8 v9 : AVal) : List AVal → AHeap → (List AVal → AHeap → Prop) → Prop
  | [v5, v10], h, Y1 => lot_some_api_Lot.k1 C N Q Y1 v1 v5 v8 v9 v10 h
  | _, _, _ => False
/-- storeman/lot.some[storeman/api.Lot] -/
@[simp] def lot_some_api_Lot.cps (C : CSem) (N : Nat → Nat) (v0 v1 : AVal) (h : AHeap) (Q : AVal → AHeap → Prop) : Prop :=
  B.pv (V.lenSl v0) fun v9 =>
    LoopR (lot_some_api_Lot.l2 C N Q v1 v0 v9) [.nils, (.int .i64 0)] h
def lot_some_api_Lot.Imp (C : CSem) (N : Nat → Nat) : Prop := ∀ (v0 v1 : AVal) (h : AHeap) (Q : AVal → AHeap → Prop), lot_some_api_Lot.cps C N v0 v1 h (dn Q) → C (N 164) [v0, v1] h Q
/-- storeman/lot.Of$1 -/
@[simp] def lot_Of_1.cps (C : CSem) (N : Nat → Nat) (v0 v1 : AVal) (h : AHeap) (Q : AVal → AHeap → Prop) : Prop :=
  B.pv (A.boxN 6 v0) fun c2 =>
    B.al c2 (B.pv (V.field1 1 c2) fun v5 =>
    B.ld h v1 fun v6 =>
    B.pv (V.bin .eql v5 v6) fun v7 =>
    Q v7 h)
def lot_Of_1.Imp (C : CSem) (N : Nat → Nat) : Prop := ∀ (v0 v1 : AVal) (h : AHeap) (Q : AVal → AHeap → Prop), lot_Of_1.cps C N v0 v1 h (dn Q) → C (N 165) [v0, v1] h Q
end Go.Ab

/- What is told: residuals: what each function does in the abstract memory, printed by a program of mine. Definitions alone. -/
set_option linter.unusedVariables false
namespace Go.Ab
end Go.Ab

/- What is told: residuals: what each function does in the abstract memory, printed by a program of mine. Definitions alone. -/
set_option linter.unusedVariables false
namespace Go.Ab
end Go.Ab

/- What is told: residuals: what each function does in the abstract memory, printed by a program of mine. Definitions alone. -/
set_option linter.unusedVariables false
namespace Go.Ab
@[simp] def slices_CloneG.cps (C : CSem) (E : ElOps) (v0 : AVal) (h : AHeap) (Q : AVal → AHeap → Prop) : Prop :=
  B.pv (V.eqSl .eql v0 .nils) fun v4 =>
    B.cond v4
    (Q .nils h)
    (B.appW h E.es E.bytes .sz v0 fun v7 h =>
    Q v7 h)
@[simp] def slices_SortStableFuncG.cps (C : CSem) (E : ElOps) (f1 : Nat) (v0 v1 : AVal) (h : AHeap) (Q : AVal → AHeap → Prop) : Prop :=
  B.pv (V.lenSl v0) fun v6 =>
    B.call C f1 [v0, v6, v1] h fun v8 h =>
    Q (.tup []) h
@[simp] def slices_stableCmpFuncG.k1 (C : CSem) (E : ElOps) (f1 f2 : Nat) (Q : AVal → AHeap → Prop) (Y1 : List AVal → AHeap → Prop) (v0 v1 v2 v6 v7 : AVal) (h : AHeap) : Prop :=
  B.pv (V.bin .add v7 v6) fun v51 =>
    B.pv (V.bin .lss v51 v1) fun v54 =>
    B.cond v54
    (B.call C f1 [v0, v7, v51, v1, v2] h fun v60 h =>
    B.pv (V.bin .mul v6 (.int .i64 2)) fun v62 =>
    Y1 [v62] h)
    (B.pv (V.bin .mul v6 (.int .i64 2)) fun v62 =>
    Y1 [v62] h)
@[simp] def slices_stableCmpFuncG.k2 (C : CSem) (E : ElOps) (f1 f2 : Nat) (Q : AVal → AHeap → Prop) (Y1 : List AVal → AHeap → Prop) (Y2 : List AVal → AHeap → Prop) (v0 v1 v2 v6 v7 v8 : AVal) (h : AHeap) : Prop :=
  B.pv (V.bin .leq v8 v1) fun v35 =>
    B.cond v35
    (B.pv (V.bin .add v7 v6) fun v40 =>
    B.call C f1 [v0, v7, v40, v8, v2] h fun v43 h =>
    B.pv (V.bin .mul (.int .i64 2) v6) fun v47 =>
    B.pv (V.bin .add v8 v47) fun v48 =>
    Y2 [v8, v48] h)
    (slices_stableCmpFuncG.k1 C E f1 f2 Q Y1 v0 v1 v2 v6 v7 h)
@[simp] def slices_stableCmpFuncG.l3 (C : CSem) (E : ElOps) (f1 f2 : Nat) (Q : AVal → AHeap → Prop) (Y1 : List AVal → AHeap → Prop) (v0 v1 v2 v6 : AVal) : List AVal → AHeap → (List AVal → AHeap → Prop) → Prop
  | [v7, v8], h, Y2 => slices_stableCmpFuncG.k2 C E f1 f2 Q Y1 Y2 v0 v1 v2 v6 v7 v8 h
  | _, _, _ => False
@[simp] def slices_stableCmpFuncG.k4 (C : CSem) (E : ElOps) (f1 f2 : Nat) (Q : AVal → AHeap → Prop) (Y1 : List AVal → AHeap → Prop) (v0 v1 v2 v6 : AVal) (h : AHeap) : Prop :=
  B.pv (V.bin .lss v6 v1) fun v30 =>
    B.cond v30
    (B.pv (V.bin .mul (.int .i64 2) v6) fun v32 =>
    LoopR (slices_stableCmpFuncG.l3 C E f1 f2 Q Y1 v0 v1 v2 v6) [(.int .i64 0), v32] h)
    (Q (.tup []) h)
@[simp] def slices_stableCmpFuncG.l5 (C : CSem) (E : ElOps) (f1 f2 : Nat) (Q : AVal → AHeap → Prop) (v0 v1 v2 : AVal) : List AVal → AHeap → (List AVal → AHeap → Prop) → Prop
  | [v6], h, Y1 => slices_stableCmpFuncG.k4 C E f1 f2 Q Y1 v0 v1 v2 v6 h
  | _, _, _ => False
@[simp] def slices_stableCmpFuncG.k6 (C : CSem) (E : ElOps) (f1 f2 : Nat) (Q : AVal → AHeap → Prop) (Y3 : List AVal → AHeap → Prop) (v0 v1 v2 v6 v7 v8 : AVal) (h : AHeap) : Prop :=
  B.pv (V.bin .leq v8 v1) fun v13 =>
    B.cond v13
    (B.call C f2 [v0, v7, v8, v2] h fun v18 h =>
    B.pv (V.bin .add v8 v6) fun v22 =>
    Y3 [v8, v22] h)
    (B.call C f2 [v0, v7, v1, v2] h fun v27 h =>
    LoopR (slices_stableCmpFuncG.l5 C E f1 f2 Q v0 v1 v2) [v6] h)
@[simp] def slices_stableCmpFuncG.l7 (C : CSem) (E : ElOps) (f1 f2 : Nat) (Q : AVal → AHeap → Prop) (v0 v1 v2 v6 : AVal) : List AVal → AHeap → (List AVal → AHeap → Prop) → Prop
  | [v7, v8], h, Y3 => slices_stableCmpFuncG.k6 C E f1 f2 Q Y3 v0 v1 v2 v6 v7 v8 h
  | _, _, _ => False
@[simp] def slices_stableCmpFuncG.cps (C : CSem) (E : ElOps) (f1 f2 : Nat) (v0 v1 v2 : AVal) (h : AHeap) (Q : AVal → AHeap → Prop) : Prop :=
  LoopR (slices_stableCmpFuncG.l7 C E f1 f2 Q v0 v1 v2 (.int .i64 20)) [(.int .i64 0), (.int .i64 20)] h
@[simp] def slices_insertionSortCmpFuncG.k1 (C : CSem) (E : ElOps) (Q : AVal → AHeap → Prop) (Y1 : List AVal → AHeap → Prop) (Y2 : List AVal → AHeap → Prop) (v0 v1 v2 v3 v8 v9 : AVal) (h : AHeap) : Prop :=
  B.pv (V.bin .gtr v9 v1) fun v20 =>
    B.gd h v20 true (fun K => K v3 h) fun v22 h =>
    B.gd h v20 true (fun K => K v0 h) fun v23 h =>
    B.gd h v20 true (fun K => K v9 h) fun v24 h =>
    B.gd h v20 true (fun K => B.pv (V.idxS E.es v23 v24) fun v => K v h) fun v25 h =>
    B.gd h v20 true (fun K => E.ld h v25 fun v => K v h) fun v26 h =>
    B.gd h v20 true (fun K => K v0 h) fun v27 h =>
    B.gd h v20 true (fun K => K v9 h) fun v28 h =>
    B.gd h v20 true (fun K => B.pv (V.bin .sub v28 (.int .i64 1)) fun v => K v h) fun v29 h =>
    B.gd h v20 true (fun K => B.pv (V.idxS E.es v27 v29) fun v => K v h) fun v30 h =>
    B.gd h v20 true (fun K => E.ld h v30 fun v => K v h) fun v31 h =>
    B.gd h v20 true (fun K => B.callv h C v22 [v26, v31] K) fun v32 h =>
    B.gd h v20 true (fun K => B.pv (V.bin .lss v32 (.int .i64 0)) fun v => K v h) fun v33 h =>
    B.pick v20 v33 (.bool false) fun v34 =>
    B.cond v34
    (B.pv (V.bin .sub v9 (.int .i64 1)) fun v41 =>
    B.pv (V.bin .sub v9 (.int .i64 1)) fun v44 =>
    B.pv (V.idxS E.es v0 v44) fun v45 =>
    E.ld h v45 fun v46 =>
    B.pv (V.idxS E.es v0 v9) fun v49 =>
    E.ld h v49 fun v50 =>
    B.pv (V.idxS E.es v0 v9) fun v51 =>
    E.st h v51 v46 fun h =>
    B.pv (V.idxS E.es v0 v41) fun v52 =>
    E.st h v52 v50 fun h =>
    B.pv (V.bin .sub v9 (.int .i64 1)) fun v36 =>
    Y2 [v36] h)
    (B.pv (V.bin .add v8 (.int .i64 1)) fun v16 =>
    Y1 [v16] h)
@[simp] def slices_insertionSortCmpFuncG.l2 (C : CSem) (E : ElOps) (Q : AVal → AHeap → Prop) (Y1 : List AVal → AHeap → Prop) (v0 v1 v2 v3 v8 : AVal) : List AVal → AHeap → (List AVal → AHeap → Prop) → Prop
  | [v9], h, Y2 => slices_insertionSortCmpFuncG.k1 C E Q Y1 Y2 v0 v1 v2 v3 v8 v9 h
  | _, _, _ => False
@[simp] def slices_insertionSortCmpFuncG.l3 (C : CSem) (E : ElOps) (Q : AVal → AHeap → Prop) (v0 v1 v2 v3 : AVal) : List AVal → AHeap → (List AVal → AHeap → Prop) → Prop
  | [v8], h, Y1 => B.pv (V.bin .lss v8 v2) fun v14 =>
    B.cond v14
    (LoopR (slices_insertionSortCmpFuncG.l2 C E Q Y1 v0 v1 v2 v3 v8) [v8] h)
    (Q (.tup []) h)
  | _, _, _ => False
@[simp] def slices_insertionSortCmpFuncG.cps (C : CSem) (E : ElOps) (v0 v1 v2 v3 : AVal) (h : AHeap) (Q : AVal → AHeap → Prop) : Prop :=
  B.pv (V.bin .add v1 (.int .i64 1)) fun v11 =>
    LoopR (slices_insertionSortCmpFuncG.l3 C E Q v0 v1 v2 v3) [v11] h
@[simp] def slices_symMergeCmpFuncG.k1 (C : CSem) (E : ElOps) (f1 f2 : Nat) (Q : AVal → AHeap → Prop) (v0 v3 v4 v18 v24 : AVal) (h : AHeap) : Prop :=
  B.pv (V.bin .lss v18 v24) fun v208 =>
    B.gd h v208 true (fun K => K v24 h) fun v210 h =>
    B.gd h v208 true (fun K => K v3 h) fun v211 h =>
    B.gd h v208 true (fun K => B.pv (V.bin .lss v210 v211) fun v => K v h) fun v212 h =>
    B.pick v208 v212 (.bool false) fun v213 =>
    B.cond v213
    (B.call C f1 [v0, v18, v24, v3, v4] h fun v219 h =>
    Q (.tup []) h)
    (Q (.tup []) h)
@[simp] def slices_symMergeCmpFuncG.k2 (C : CSem) (E : ElOps) (f1 f2 : Nat) (Q : AVal → AHeap → Prop) (v0 v1 v3 v4 v18 v20 v24 : AVal) (h : AHeap) : Prop :=
  B.pv (V.bin .lss v1 v20) fun v194 =>
    B.gd h v194 true (fun K => K v20 h) fun v196 h =>
    B.gd h v194 true (fun K => K v18 h) fun v197 h =>
    B.gd h v194 true (fun K => B.pv (V.bin .lss v196 v197) fun v => K v h) fun v198 h =>
    B.pick v194 v198 (.bool false) fun v199 =>
    B.cond v199
    (B.call C f1 [v0, v1, v20, v18, v4] h fun v205 h =>
    slices_symMergeCmpFuncG.k1 C E f1 f2 Q v0 v3 v4 v18 v24 h)
    (slices_symMergeCmpFuncG.k1 C E f1 f2 Q v0 v3 v4 v18 v24 h)
@[simp] def slices_symMergeCmpFuncG.k3 (C : CSem) (E : ElOps) (f1 f2 : Nat) (Q : AVal → AHeap → Prop) (v0 v1 v2 v3 v4 v18 v20 v24 : AVal) (h : AHeap) : Prop :=
  B.pv (V.bin .lss v20 v2) fun v180 =>
    B.gd h v180 true (fun K => K v2 h) fun v182 h =>
    B.gd h v180 true (fun K => K v24 h) fun v183 h =>
    B.gd h v180 true (fun K => B.pv (V.bin .lss v182 v183) fun v => K v h) fun v184 h =>
    B.pick v180 v184 (.bool false) fun v185 =>
    B.cond v185
    (B.call C f2 [v0, v20, v2, v24, v4] h fun v191 h =>
    slices_symMergeCmpFuncG.k2 C E f1 f2 Q v0 v1 v3 v4 v18 v20 v24 h)
    (slices_symMergeCmpFuncG.k2 C E f1 f2 Q v0 v1 v3 v4 v18 v20 v24 h)
@[simp] def slices_symMergeCmpFuncG.k4 (C : CSem) (E : ElOps) (f1 f2 : Nat) (Q : AVal → AHeap → Prop) (Y1 : List AVal → AHeap → Prop) (v0 v1 v2 v3 v4 v18 v19 v20 v21 v22 : AVal) (h : AHeap) : Prop :=
  B.pv (V.bin .lss v20 v21) fun v151 =>
    B.cond v151
    (B.pv (V.bin .add v20 v21) fun v154 =>
    B.pv (V.toInt .u64 v154) fun v155 =>
    B.pv (V.bin .shr v155 (.int .u64 1)) fun v156 =>
    B.pv (V.toInt .i64 v156) fun v157 =>
    B.pv (V.bin .sub v22 v157) fun v162 =>
    B.pv (V.idxS E.es v0 v162) fun v163 =>
    E.ld h v163 fun v164 =>
    B.pv (V.idxS E.es v0 v157) fun v167 =>
    E.ld h v167 fun v168 =>
    B.callv h C v4 [v164, v168] fun v169 h =>
    B.pv (V.bin .lss v169 (.int .i64 0)) fun v170 =>
    B.pv (V.un .not v170) fun v171 =>
    B.cond v171
    (B.pv (V.bin .add v157 (.int .i64 1)) fun v173 =>
    Y1 [v173, v21] h)
    (Y1 [v20, v157] h))
    (B.pv (V.bin .sub v19 v20) fun v177 =>
    slices_symMergeCmpFuncG.k3 C E f1 f2 Q v0 v1 v2 v3 v4 v18 v20 v177 h)
@[simp] def slices_symMergeCmpFuncG.l5 (C : CSem) (E : ElOps) (f1 f2 : Nat) (Q : AVal → AHeap → Prop) (v0 v1 v2 v3 v4 v18 v19 v22 : AVal) : List AVal → AHeap → (List AVal → AHeap → Prop) → Prop
  | [v20, v21], h, Y1 => slices_symMergeCmpFuncG.k4 C E f1 f2 Q Y1 v0 v1 v2 v3 v4 v18 v19 v20 v21 v22 h
  | _, _, _ => False
@[simp] def slices_symMergeCmpFuncG.k6 (C : CSem) (E : ElOps) (f1 f2 : Nat) (Q : AVal → AHeap → Prop) (v0 v1 v2 v3 v4 v18 v19 : AVal) (h : AHeap) : Prop :=
  B.pv (V.bin .gtr v2 v18) fun v140 =>
    B.cond v140
    (B.pv (V.bin .sub v19 v3) fun v143 =>
    B.pv (V.bin .sub v19 (.int .i64 1)) fun v148 =>
    LoopR (slices_symMergeCmpFuncG.l5 C E f1 f2 Q v0 v1 v2 v3 v4 v18 v19 v148) [v143, v18] h)
    (B.pv (V.bin .sub v19 (.int .i64 1)) fun v148 =>
    LoopR (slices_symMergeCmpFuncG.l5 C E f1 f2 Q v0 v1 v2 v3 v4 v18 v19 v148) [v1, v2] h)
@[simp] def slices_symMergeCmpFuncG.k7 (C : CSem) (E : ElOps) (f1 f2 : Nat) (Q : AVal → AHeap → Prop) (v0 v1 v2 v3 v4 : AVal) (h : AHeap) : Prop :=
  B.pv (V.bin .add v1 v3) fun v131 =>
    B.pv (V.toInt .u64 v131) fun v132 =>
    B.pv (V.bin .shr v132 (.int .u64 1)) fun v133 =>
    B.pv (V.toInt .i64 v133) fun v134 =>
    B.pv (V.bin .add v134 v2) fun v137 =>
    slices_symMergeCmpFuncG.k6 C E f1 f2 Q v0 v1 v2 v3 v4 v134 v137 h
@[simp] def slices_symMergeCmpFuncG.k8 (C : CSem) (E : ElOps) (f1 f2 : Nat) (Q : AVal → AHeap → Prop) (Y2 : List AVal → AHeap → Prop) (v0 v14 v17 : AVal) (h : AHeap) : Prop :=
  B.pv (V.bin .gtr v17 v14) fun v110 =>
    B.cond v110
    (B.pv (V.bin .sub v17 (.int .i64 1)) fun v117 =>
    B.pv (V.bin .sub v17 (.int .i64 1)) fun v120 =>
    B.pv (V.idxS E.es v0 v120) fun v121 =>
    E.ld h v121 fun v122 =>
    B.pv (V.idxS E.es v0 v17) fun v125 =>
    E.ld h v125 fun v126 =>
    B.pv (V.idxS E.es v0 v17) fun v127 =>
    E.st h v127 v122 fun h =>
    B.pv (V.idxS E.es v0 v117) fun v128 =>
    E.st h v128 v126 fun h =>
    B.pv (V.bin .sub v17 (.int .i64 1)) fun v112 =>
    Y2 [v112] h)
    (Q (.tup []) h)
@[simp] def slices_symMergeCmpFuncG.l9 (C : CSem) (E : ElOps) (f1 f2 : Nat) (Q : AVal → AHeap → Prop) (v0 v14 : AVal) : List AVal → AHeap → (List AVal → AHeap → Prop) → Prop
  | [v17], h, Y2 => slices_symMergeCmpFuncG.k8 C E f1 f2 Q Y2 v0 v14 v17 h
  | _, _, _ => False
@[simp] def slices_symMergeCmpFuncG.k10 (C : CSem) (E : ElOps) (f1 f2 : Nat) (Q : AVal → AHeap → Prop) (Y3 : List AVal → AHeap → Prop) (v0 v2 v4 v14 v15 : AVal) (h : AHeap) : Prop :=
  B.pv (V.bin .lss v14 v15) fun v85 =>
    B.cond v85
    (B.pv (V.bin .add v14 v15) fun v88 =>
    B.pv (V.toInt .u64 v88) fun v89 =>
    B.pv (V.bin .shr v89 (.int .u64 1)) fun v90 =>
    B.pv (V.toInt .i64 v90) fun v91 =>
    B.pv (V.idxS E.es v0 v2) fun v95 =>
    E.ld h v95 fun v96 =>
    B.pv (V.idxS E.es v0 v91) fun v99 =>
    E.ld h v99 fun v100 =>
    B.callv h C v4 [v96, v100] fun v101 h =>
    B.pv (V.bin .lss v101 (.int .i64 0)) fun v102 =>
    B.pv (V.un .not v102) fun v103 =>
    B.cond v103
    (B.pv (V.bin .add v91 (.int .i64 1)) fun v105 =>
    Y3 [v105, v15] h)
    (Y3 [v14, v91] h))
    (LoopR (slices_symMergeCmpFuncG.l9 C E f1 f2 Q v0 v14) [v2] h)
@[simp] def slices_symMergeCmpFuncG.l11 (C : CSem) (E : ElOps) (f1 f2 : Nat) (Q : AVal → AHeap → Prop) (v0 v2 v4 : AVal) : List AVal → AHeap → (List AVal → AHeap → Prop) → Prop
  | [v14, v15], h, Y3 => slices_symMergeCmpFuncG.k10 C E f1 f2 Q Y3 v0 v2 v4 v14 v15 h
  | _, _, _ => False
@[simp] def slices_symMergeCmpFuncG.k12 (C : CSem) (E : ElOps) (f1 f2 : Nat) (Q : AVal → AHeap → Prop) (v0 v1 v2 v3 v4 : AVal) (h : AHeap) : Prop :=
  B.pv (V.bin .sub v3 v2) fun v79 =>
    B.pv (V.bin .eql v79 (.int .i64 1)) fun v80 =>
    B.cond v80 (LoopR (slices_symMergeCmpFuncG.l11 C E f1 f2 Q v0 v2 v4) [v1, v2] h) (slices_symMergeCmpFuncG.k7 C E f1 f2 Q v0 v1 v2 v3 v4 h)
@[simp] def slices_symMergeCmpFuncG.k13 (C : CSem) (E : ElOps) (f1 f2 : Nat) (Q : AVal → AHeap → Prop) (Y4 : List AVal → AHeap → Prop) (v0 v10 v13 : AVal) (h : AHeap) : Prop :=
  B.pv (V.bin .sub v10 (.int .i64 1)) fun v57 =>
    B.pv (V.bin .lss v13 v57) fun v58 =>
    B.cond v58
    (B.pv (V.bin .add v13 (.int .i64 1)) fun v65 =>
    B.pv (V.bin .add v13 (.int .i64 1)) fun v68 =>
    B.pv (V.idxS E.es v0 v68) fun v69 =>
    E.ld h v69 fun v70 =>
    B.pv (V.idxS E.es v0 v13) fun v73 =>
    E.ld h v73 fun v74 =>
    B.pv (V.idxS E.es v0 v13) fun v75 =>
    E.st h v75 v70 fun h =>
    B.pv (V.idxS E.es v0 v65) fun v76 =>
    E.st h v76 v74 fun h =>
    B.pv (V.bin .add v13 (.int .i64 1)) fun v60 =>
    Y4 [v60] h)
    (Q (.tup []) h)
@[simp] def slices_symMergeCmpFuncG.l14 (C : CSem) (E : ElOps) (f1 f2 : Nat) (Q : AVal → AHeap → Prop) (v0 v10 : AVal) : List AVal → AHeap → (List AVal → AHeap → Prop) → Prop
  | [v13], h, Y4 => slices_symMergeCmpFuncG.k13 C E f1 f2 Q Y4 v0 v10 v13 h
  | _, _, _ => False
@[simp] def slices_symMergeCmpFuncG.k15 (C : CSem) (E : ElOps) (f1 f2 : Nat) (Q : AVal → AHeap → Prop) (Y5 : List AVal → AHeap → Prop) (v0 v1 v4 v10 v11 : AVal) (h : AHeap) : Prop :=
  B.pv (V.bin .lss v10 v11) fun v33 =>
    B.cond v33
    (B.pv (V.bin .add v10 v11) fun v36 =>
    B.pv (V.toInt .u64 v36) fun v37 =>
    B.pv (V.bin .shr v37 (.int .u64 1)) fun v38 =>
    B.pv (V.toInt .i64 v38) fun v39 =>
    B.pv (V.idxS E.es v0 v39) fun v43 =>
    E.ld h v43 fun v44 =>
    B.pv (V.idxS E.es v0 v1) fun v47 =>
    E.ld h v47 fun v48 =>
    B.callv h C v4 [v44, v48] fun v49 h =>
    B.pv (V.bin .lss v49 (.int .i64 0)) fun v50 =>
    B.cond v50
    (B.pv (V.bin .add v39 (.int .i64 1)) fun v52 =>
    Y5 [v52, v11] h)
    (Y5 [v10, v39] h))
    (LoopR (slices_symMergeCmpFuncG.l14 C E f1 f2 Q v0 v10) [v1] h)
@[simp] def slices_symMergeCmpFuncG.l16 (C : CSem) (E : ElOps) (f1 f2 : Nat) (Q : AVal → AHeap → Prop) (v0 v1 v4 : AVal) : List AVal → AHeap → (List AVal → AHeap → Prop) → Prop
  | [v10, v11], h, Y5 => slices_symMergeCmpFuncG.k15 C E f1 f2 Q Y5 v0 v1 v4 v10 v11 h
  | _, _, _ => False
@[simp] def slices_symMergeCmpFuncG.k17 (C : CSem) (E : ElOps) (f1 f2 : Nat) (Q : AVal → AHeap → Prop) (v0 v1 v2 v3 v4 : AVal) (h : AHeap) : Prop :=
  B.pv (V.bin .sub v2 v1) fun v27 =>
    B.pv (V.bin .eql v27 (.int .i64 1)) fun v28 =>
    B.cond v28 (LoopR (slices_symMergeCmpFuncG.l16 C E f1 f2 Q v0 v1 v4) [v2, v3] h) (slices_symMergeCmpFuncG.k12 C E f1 f2 Q v0 v1 v2 v3 v4 h)
@[simp] def slices_symMergeCmpFuncG.cps (C : CSem) (E : ElOps) (f1 f2 : Nat) (v0 v1 v2 v3 v4 : AVal) (h : AHeap) (Q : AVal → AHeap → Prop) : Prop :=
  slices_symMergeCmpFuncG.k17 C E f1 f2 Q v0 v1 v2 v3 v4 h
@[simp] def slices_rotateCmpFuncG.k1 (C : CSem) (E : ElOps) (f1 : Nat) (Q : AVal → AHeap → Prop) (Y1 : List AVal → AHeap → Prop) (v0 v2 v4 v10 v11 : AVal) (h : AHeap) : Prop :=
  B.pv (V.bin .neq v10 v11) fun v20 =>
    B.cond v20
    (B.pv (V.bin .gtr v10 v11) fun v23 =>
    B.cond v23
    (B.pv (V.bin .sub v2 v10) fun v27 =>
    B.call C f1 [v0, v27, v2, v11, v4] h fun v31 h =>
    B.pv (V.bin .sub v10 v11) fun v34 =>
    Y1 [v34, v11] h)
    (B.pv (V.bin .sub v2 v10) fun v38 =>
    B.pv (V.bin .add v2 v11) fun v41 =>
    B.pv (V.bin .sub v41 v10) fun v43 =>
    B.call C f1 [v0, v38, v43, v10, v4] h fun v46 h =>
    B.pv (V.bin .sub v11 v10) fun v49 =>
    Y1 [v10, v49] h))
    (B.pv (V.bin .sub v2 v10) fun v53 =>
    B.call C f1 [v0, v53, v2, v10, v4] h fun v57 h =>
    Q (.tup []) h)
@[simp] def slices_rotateCmpFuncG.l2 (C : CSem) (E : ElOps) (f1 : Nat) (Q : AVal → AHeap → Prop) (v0 v2 v4 : AVal) : List AVal → AHeap → (List AVal → AHeap → Prop) → Prop
  | [v10, v11], h, Y1 => slices_rotateCmpFuncG.k1 C E f1 Q Y1 v0 v2 v4 v10 v11 h
  | _, _, _ => False
@[simp] def slices_rotateCmpFuncG.cps (C : CSem) (E : ElOps) (f1 : Nat) (v0 v1 v2 v3 v4 : AVal) (h : AHeap) (Q : AVal → AHeap → Prop) : Prop :=
  B.pv (V.bin .sub v2 v1) fun v14 =>
    B.pv (V.bin .sub v3 v2) fun v17 =>
    LoopR (slices_rotateCmpFuncG.l2 C E f1 Q v0 v2 v4) [v14, v17] h
@[simp] def slices_swapRangeCmpFuncG.k1 (C : CSem) (E : ElOps) (Q : AVal → AHeap → Prop) (Y1 : List AVal → AHeap → Prop) (v0 v1 v2 v3 v10 : AVal) (h : AHeap) : Prop :=
  B.pv (V.bin .lss v10 v3) fun v13 =>
    B.cond v13
    (B.pv (V.bin .add v1 v10) fun v19 =>
    B.pv (V.bin .add v2 v10) fun v23 =>
    B.pv (V.bin .add v2 v10) fun v27 =>
    B.pv (V.idxS E.es v0 v27) fun v28 =>
    E.ld h v28 fun v29 =>
    B.pv (V.bin .add v1 v10) fun v33 =>
    B.pv (V.idxS E.es v0 v33) fun v34 =>
    E.ld h v34 fun v35 =>
    B.pv (V.idxS E.es v0 v19) fun v36 =>
    E.st h v36 v29 fun h =>
    B.pv (V.idxS E.es v0 v23) fun v37 =>
    E.st h v37 v35 fun h =>
    B.pv (V.bin .add v10 (.int .i64 1)) fun v15 =>
    Y1 [v15] h)
    (Q (.tup []) h)
@[simp] def slices_swapRangeCmpFuncG.l2 (C : CSem) (E : ElOps) (Q : AVal → AHeap → Prop) (v0 v1 v2 v3 : AVal) : List AVal → AHeap → (List AVal → AHeap → Prop) → Prop
  | [v10], h, Y1 => slices_swapRangeCmpFuncG.k1 C E Q Y1 v0 v1 v2 v3 v10 h
  | _, _, _ => False
@[simp] def slices_swapRangeCmpFuncG.cps (C : CSem) (E : ElOps) (v0 v1 v2 v3 v4 : AVal) (h : AHeap) (Q : AVal → AHeap → Prop) : Prop :=
  LoopR (slices_swapRangeCmpFuncG.l2 C E Q v0 v1 v2 v3) [(.int .i64 0)] h
end Go.Ab

/- What is told: residuals: what each function does in the abstract memory, printed by a program of mine. Definitions alone. -/
set_option linter.unusedVariables false
namespace Go.Ab
/-- slices.Clone[[]storeman/api.Lot,storeman/api.Lot] -/
def slices_Clone_api_Lot_api_Lot.cps (C : CSem) (N : Nat → Nat) (v0 : AVal) (h : AHeap) (Q : AVal → AHeap → Prop) : Prop :=
  slices_CloneG.cps C (opsF 6 56 [.int .i64 0, .str [], .int .i64 0, .int .i64 0, .int .i64 0, .bool false] 0 []) v0 h Q
def slices_Clone_api_Lot_api_Lot.Imp (C : CSem) (N : Nat → Nat) : Prop := ∀ (v0 : AVal) (h : AHeap) (Q : AVal → AHeap → Prop), slices_Clone_api_Lot_api_Lot.cps C N v0 h (dn Q) → C (N 160) [v0] h Q
/-- slices.SortStableFunc[[]storeman/api.Lot,storeman/api.Lot] -/
def slices_SortStableFunc_api_Lot_api_Lot.cps (C : CSem) (N : Nat → Nat) (v0 v1 : AVal) (h : AHeap) (Q : AVal → AHeap → Prop) : Prop :=
  slices_SortStableFuncG.cps C (opsF 6 56 [.int .i64 0, .str [], .int .i64 0, .int .i64 0, .int .i64 0, .bool false] 0 []) (N 166) v0 v1 h Q
def slices_SortStableFunc_api_Lot_api_Lot.Imp (C : CSem) (N : Nat → Nat) : Prop := ∀ (v0 v1 : AVal) (h : AHeap) (Q : AVal → AHeap → Prop), slices_SortStableFunc_api_Lot_api_Lot.cps C N v0 v1 h (dn Q) → C (N 161) [v0, v1] h Q
/-- slices.stableCmpFunc[storeman/api.Lot] -/
def slices_stableCmpFunc_api_Lot.cps (C : CSem) (N : Nat → Nat) (v0 v1 v2 : AVal) (h : AHeap) (Q : AVal → AHeap → Prop) : Prop :=
  slices_stableCmpFuncG.cps C (opsF 6 56 [.int .i64 0, .str [], .int .i64 0, .int .i64 0, .int .i64 0, .bool false] 0 []) (N 167) (N 168) v0 v1 v2 h Q
def slices_stableCmpFunc_api_Lot.Imp (C : CSem) (N : Nat → Nat) : Prop := ∀ (v0 v1 v2 : AVal) (h : AHeap) (Q : AVal → AHeap → Prop), slices_stableCmpFunc_api_Lot.cps C N v0 v1 v2 h (dn Q) → C (N 166) [v0, v1, v2] h Q
/-- slices.symMergeCmpFunc[storeman/api.Lot] -/
def slices_symMergeCmpFunc_api_Lot.cps (C : CSem) (N : Nat → Nat) (v0 v1 v2 v3 v4 : AVal) (h : AHeap) (Q : AVal → AHeap → Prop) : Prop :=
  slices_symMergeCmpFuncG.cps C (opsF 6 56 [.int .i64 0, .str [], .int .i64 0, .int .i64 0, .int .i64 0, .bool false] 0 []) (N 167) (N 169) v0 v1 v2 v3 v4 h Q
def slices_symMergeCmpFunc_api_Lot.Imp (C : CSem) (N : Nat → Nat) : Prop := ∀ (v0 v1 v2 v3 v4 : AVal) (h : AHeap) (Q : AVal → AHeap → Prop), slices_symMergeCmpFunc_api_Lot.cps C N v0 v1 v2 v3 v4 h (dn Q) → C (N 167) [v0, v1, v2, v3, v4] h Q
/-- slices.insertionSortCmpFunc[storeman/api.Lot] -/
def slices_insertionSortCmpFunc_api_Lot.cps (C : CSem) (N : Nat → Nat) (v0 v1 v2 v3 : AVal) (h : AHeap) (Q : AVal → AHeap → Prop) : Prop :=
  slices_insertionSortCmpFuncG.cps C (opsF 6 56 [.int .i64 0, .str [], .int .i64 0, .int .i64 0, .int .i64 0, .bool false] 0 []) v0 v1 v2 v3 h Q
def slices_insertionSortCmpFunc_api_Lot.Imp (C : CSem) (N : Nat → Nat) : Prop := ∀ (v0 v1 v2 v3 : AVal) (h : AHeap) (Q : AVal → AHeap → Prop), slices_insertionSortCmpFunc_api_Lot.cps C N v0 v1 v2 v3 h (dn Q) → C (N 168) [v0, v1, v2, v3] h Q
/-- slices.rotateCmpFunc[storeman/api.Lot] -/
def slices_rotateCmpFunc_api_Lot.cps (C : CSem) (N : Nat → Nat) (v0 v1 v2 v3 v4 : AVal) (h : AHeap) (Q : AVal → AHeap → Prop) : Prop :=
  slices_rotateCmpFuncG.cps C (opsF 6 56 [.int .i64 0, .str [], .int .i64 0, .int .i64 0, .int .i64 0, .bool false] 0 []) (N 170) v0 v1 v2 v3 v4 h Q
def slices_rotateCmpFunc_api_Lot.Imp (C : CSem) (N : Nat → Nat) : Prop := ∀ (v0 v1 v2 v3 v4 : AVal) (h : AHeap) (Q : AVal → AHeap → Prop), slices_rotateCmpFunc_api_Lot.cps C N v0 v1 v2 v3 v4 h (dn Q) → C (N 169) [v0, v1, v2, v3, v4] h Q
/-- slices.swapRangeCmpFunc[storeman/api.Lot] -/
def slices_swapRangeCmpFunc_api_Lot.cps (C : CSem) (N : Nat → Nat) (v0 v1 v2 v3 v4 : AVal) (h : AHeap) (Q : AVal → AHeap → Prop) : Prop :=
  slices_swapRangeCmpFuncG.cps C (opsF 6 56 [.int .i64 0, .str [], .int .i64 0, .int .i64 0, .int .i64 0, .bool false] 0 []) v0 v1 v2 v3 v4 h Q
def slices_swapRangeCmpFunc_api_Lot.Imp (C : CSem) (N : Nat → Nat) : Prop := ∀ (v0 v1 v2 v3 v4 : AVal) (h : AHeap) (Q : AVal → AHeap → Prop), slices_swapRangeCmpFunc_api_Lot.cps C N v0 v1 v2 v3 v4 h (dn Q) → C (N 170) [v0, v1, v2, v3, v4] h Q
end Go.Ab

/- What is told: residuals: what each function does in the abstract memory, printed by a program of mine. Definitions alone. -/
set_option linter.unusedVariables false
namespace Go.Ab
@[simp] def window_Right.k1 (C : CSem) (N : Nat → Nat) (Q : AVal → AHeap → Prop) (v0 : AVal) (h : AHeap) : Prop :=
  B.pv (A.boxN 2 v0) fun c1 =>
    B.al c1 (B.pv (V.field1 0 c1) fun v4 =>
    B.pv (V.bin .leq (.int .i64 0) v4) fun v5 =>
    B.al c1 (B.gd h v5 true (fun K => K .undef h) fun _ h =>
    B.gd h v5 true (fun K => B.pv (V.field1 0 c1) fun v => K v h) fun v8 h =>
    B.al c1 (B.gd h v5 true (fun K => K .undef h) fun _ h =>
    B.gd h v5 true (fun K => B.pv (V.field1 1 c1) fun v => K v h) fun v10 h =>
    B.gd h v5 true (fun K => B.pv (V.bin .leq v8 v10) fun v => K v h) fun v11 h =>
    B.pick v5 v11 (.bool false) fun v12 =>
    B.al c1 (B.gd h v12 true (fun K => K .undef h) fun _ h =>
    B.gd h v12 true (fun K => B.pv (V.field1 1 c1) fun v => K v h) fun v15 h =>
    B.gd h v12 true (fun K => B.pv (V.bin .leq v15 (.int .i64 4001)) fun v => K v h) fun v16 h =>
    B.pick v12 v16 (.bool false) fun v17 =>
    Q v17 h))))
/-- storeman/window.Right -/
@[simp] def window_Right.cps (C : CSem) (N : Nat → Nat) (v0 : AVal) (h : AHeap) (Q : AVal → AHeap → Prop) : Prop :=
  window_Right.k1 C N Q v0 h
def window_Right.Imp (C : CSem) (N : Nat → Nat) : Prop := ∀ (v0 : AVal) (h : AHeap) (Q : AVal → AHeap → Prop), window_Right.cps C N v0 h (dn Q) → C (N 5) [v0] h Q
@[simp] def window_Has.k1 (C : CSem) (N : Nat → Nat) (Q : AVal → AHeap → Prop) (v0 v1 : AVal) (h : AHeap) : Prop :=
  B.pv (A.boxN 2 v0) fun c2 =>
    B.pv (V.fieldN 0 2 c2) fun v5 =>
    B.call C (N 5) [v5] h fun v6 h =>
    B.al c2 (B.gd h v6 true (fun K => K .undef h) fun _ h =>
    B.gd h v6 true (fun K => B.pv (V.field1 0 c2) fun v => K v h) fun v9 h =>
    B.gd h v6 true (fun K => K v1 h) fun v10 h =>
    B.gd h v6 true (fun K => B.pv (V.bin .leq v9 v10) fun v => K v h) fun v11 h =>
    B.pick v6 v11 (.bool false) fun v12 =>
    B.gd h v12 true (fun K => K v1 h) fun v14 h =>
    B.al c2 (B.gd h v12 true (fun K => K .undef h) fun _ h =>
    B.gd h v12 true (fun K => B.pv (V.field1 1 c2) fun v => K v h) fun v16 h =>
    B.gd h v12 true (fun K => B.pv (V.bin .lss v14 v16) fun v => K v h) fun v17 h =>
    B.pick v12 v17 (.bool false) fun v18 =>
    Q v18 h))
/-- storeman/window.Has -/
@[simp] def window_Has.cps (C : CSem) (N : Nat → Nat) (v0 v1 : AVal) (h : AHeap) (Q : AVal → AHeap → Prop) : Prop :=
  window_Has.k1 C N Q v0 v1 h
def window_Has.Imp (C : CSem) (N : Nat → Nat) : Prop := ∀ (v0 v1 : AVal) (h : AHeap) (Q : AVal → AHeap → Prop), window_Has.cps C N v0 v1 h (dn Q) → C (N 7) [v0, v1] h Q
end Go.Ab

/- What is proved: each function of this program does what its residual tells. -/
set_option linter.unusedVariables false
set_option maxRecDepth 100000
namespace Go.Ab.S04
open Go.Ab Go.Proofs

noncomputable abbrev P : Program := Try.prog
def N (k : Nat) : Nat := [0, 0, 0, 0, 0, 20, 0, 30, 0, 0, 0, 0, 0, 0, 0, 0, 0, 0, 0, 0, 0, 0, 0, 0, 0, 0, 0, 0, 0, 0, 0, 0, 0, 0, 0, 0, 0, 0, 0, 0, 0, 0, 0, 0, 0, 0, 0, 0, 0, 0, 0, 0, 6, 19, 0, 0, 0, 0, 0, 0, 7, 21, 0, 0, 0, 0, 0, 0, 0, 0, 0, 0, 0, 0, 13, 0, 0, 0, 0, 0, 0, 0, 0, 0, 0, 0, 0, 0, 0, 0, 0, 0, 0, 0, 0, 0, 0, 0, 0, 0, 0, 0, 0, 0, 0, 0, 0, 0, 0, 0, 0, 0, 0, 0, 0, 0, 0, 0, 0, 0, 0, 0, 0, 0, 0, 0, 0, 0, 0, 0, 0, 0, 0, 0, 0, 0, 0, 0, 0, 0, 0, 0, 0, 0, 8, 9, 10, 3, 14, 12, 11, 4, 16, 18, 15, 17, 5, 23, 22, 24, 25, 26, 27, 29, 28, 31, 33, 35, 34, 36, 37, 32].getD k 0
theorem mixed : P.follows .mixedOrders = true := by kernel_rfl

def law04_LotSwept.I : Bx := ⟨[], [], 131, [(21, [(0, []), (1, []), (2, []), (3, []), (4, []), (5, []), (6, []), (7, []), (8, []), (9, []), (10, []), (11, []), (12, []), (13, []), (14, [])])]⟩
theorem law04_LotSwept.L {C : CSem} (hC : CMono C) (Q : AVal → AHeap → Prop) (s : Slots) (h : AHeap) (hR : law04_LotSwept.cps C N (s 0) (s 1) (s 2) h Q) : bwp P C law04_LotSwept.I (Try.f5.body.getD .skip) (retB P law04_LotSwept.I Try.f5.results.toList Q) s h :=
  eS hC (fun s h => B.call C (N 146) [] h fun v18 h =>
    B.pv (V.un .not v18) fun v19 =>
    B.cond v19
    (Q (.bool false) h)
    (law04_LotSwept.k10 C N Q (s 0) (s 1) (s 2) h)) (e1 hR) (fun s h hR => eS hC (fun s h => law04_LotSwept.k10 C N Q (s 0) (s 1) (s 2) h) (e1 hR) (fun s h hR => eS hC (fun s h => B.call C (N 154) [(s 0), (s 1)] h fun v25 h =>
    B.pv (V.ext 0 v25) fun v26 =>
    B.pv (V.ext 1 v25) fun v27 =>
    law04_LotSwept.k9 C N Q (s 0) (s 1) (s 2) v26 v27 h) (e1 hR) (fun s h hR => eS hC (fun s h => law04_LotSwept.k9 C N Q (s 0) (s 1) (s 2) (s 7) (s 8) h) (e1 hR) (fun s h hR => eS hC (fun s h => law04_LotSwept.k8 C N Q (s 0) (s 1) (s 2) (s 7) (s 8) (s 9) (s 10) h) (e1 hR) (fun s h hR => eS hC (fun s h => law04_LotSwept.k7 C N Q (s 0) (s 1) (s 2) (s 8) h) (e1 hR) (fun s h hR => eS hC (fun s h => B.call C (N 154) [(s 0), (s 11)] h fun v75 h =>
    B.pv (V.ext 0 v75) fun v76 =>
    B.pv (V.ext 1 v75) fun v77 =>
    law04_LotSwept.k6 C N Q (s 0) (s 1) (s 8) (s 11) v77 h) (e1 hR) (fun s h hR => eS hC (fun s h => law04_LotSwept.k6 C N Q (s 0) (s 1) (s 8) (s 11) (s 13) h) (e1 hR) (fun s h hR => eS hC (fun s h => LoopR (law04_LotSwept.l5 C N Q (s 0) (s 1)) [(.int .i64 0), (.int .i64 0)] h) (e1 hR) (fun s h hR => eS hC (fun s h => LoopR (law04_LotSwept.l5 C N Q (s 0) (s 1)) [(s 14), (.int .i64 0)] h) (e1 hR) (fun s h hR => eS hC (fun s h => B.call C (N 152) [(s 0), (s 1)] h fun v129 h =>
    B.pv (V.bin .eql (s 14) v129) fun v130 =>
    Q v130 h) (eS hC (fun s h => LoopR (law04_LotSwept.l5 C N Q (s 0) (s 1)) [(s 14), (s 15)] h) (e1 hR) (fun s h hR => eK (eL hC [0, 1] [14, 15] (fun kv lv h Y1 => match kv with | [v0, v1] => law04_LotSwept.l5 C N Q v0 v1 lv h Y1 | _ => False) hR (fun Y1 s h hR => eS hC (fun s h => LoopR (law04_LotSwept.l3 C N Q Y1 (s 0) (s 1) (s 14) (s 15)) [(.bool false), (.int .i64 0)] h) (e1 hR) (fun s h hR => eS hC (fun s h => B.pv (V.bin .add (s 15) (.int .i64 1)) fun v93 =>
    Y1 [(s 14), v93] h) (eK (eS hC (fun s h => LoopR (law04_LotSwept.l3 C N Q Y1 (s 0) (s 1) (s 14) (s 15)) [(s 16), (.int .i64 0)] h) (e1 hR) (fun s h hR => eS hC (fun s h => law04_LotSwept.k1 C N Q Y1 (s 0) (s 1) (s 14) (s 15) (s 16) h) (eS hC (fun s h => LoopR (law04_LotSwept.l3 C N Q Y1 (s 0) (s 1) (s 14) (s 15)) [(s 16), (s 17)] h) (e1 hR) (fun s h hR => eK (eL hC [0, 1, 14, 15] [16, 17] (fun kv lv h Y2 => match kv with | [v0, v1, v14, v15] => law04_LotSwept.l3 C N Q Y1 v0 v1 v14 v15 lv h Y2 | _ => False) hR (fun Y2 s h hR => e1 hR)))) (fun s h hR => e1 hR)))) (fun s h hR => e1 hR)))))) (fun s h hR => e1 hR)))))))))))
theorem law04_LotSwept.imp : law04_LotSwept.Imp (AC P) N := fun v0 v1 v2 h Q hR => eF mixed (fn := Try.f5) (fun hC => law04_LotSwept.L hC (dn Q) (startS [v0, v1, v2]) h hR)

def lot_Right.I : Bx := ⟨[1], [3, 7, 12, 17, 18, 20, 21, 26, 31], 35, []⟩
theorem lot_Right.L {C : CSem} (hC : CMono C) (Q : AVal → AHeap → Prop) (s : Slots) (h : AHeap) (hR : lot_Right.cps C N (s 0) h Q) : bwp P C lot_Right.I (Try.f6.body.getD .skip) (retB P lot_Right.I Try.f6.results.toList Q) s h :=
  e1 hR
theorem lot_Right.imp : lot_Right.Imp (AC P) N := fun v0 h Q hR => eF mixed (fn := Try.f6) (fun hC => lot_Right.L hC (dn Q) (startS [v0]) h hR)

def lot_Compare.I : Bx := ⟨[2, 3], [5, 6, 8, 9, 12, 14], 19, [(1, [(0, []), (1, []), (2, []), (3, []), (4, []), (5, []), (7, []), (8, []), (9, []), (10, []), (6, [8, 10]), (11, []), (12, []), (13, []), (14, [])])]⟩
theorem lot_Compare.L {C : CSem} (hC : CMono C) (Q : AVal → AHeap → Prop) (s : Slots) (h : AHeap) (hR : lot_Compare.cps C N (s 0) (s 1) h Q) : bwp P C lot_Compare.I (Try.f8.body.getD .skip) (retB P lot_Compare.I Try.f8.results.toList Q) s h :=
  e1 hR
theorem lot_Compare.imp : lot_Compare.Imp (AC P) N := fun v0 v1 h Q hR => eF mixed (fn := Try.f8) (fun hC => lot_Compare.L hC (dn Q) (startS [v0, v1]) h hR)

def law04_awake.I : Bx := ⟨[], [], 79, []⟩
theorem law04_awake.L {C : CSem} (hC : CMono C) (Q : AVal → AHeap → Prop) (s : Slots) (h : AHeap) (hR : law04_awake.cps C N h Q) : bwp P C law04_awake.I (Try.f10.body.getD .skip) (retB P law04_awake.I Try.f10.results.toList Q) s h :=
  e1 hR
theorem law04_awake.imp : law04_awake.Imp (AC P) N := fun h Q hR => eF mixed (fn := Try.f10) (fun hC => law04_awake.L hC (dn Q) (startS []) h hR)

def law04_great.I : Bx := ⟨[], [], 28, []⟩
theorem law04_great.L {C : CSem} (hC : CMono C) (Q : AVal → AHeap → Prop) (s : Slots) (h : AHeap) (hR : law04_great.cps C N (s 0) h Q) : bwp P C law04_great.I (Try.f11.body.getD .skip) (retB P law04_great.I Try.f11.results.toList Q) s h :=
  eS hC (fun s h => B.pv (V.lenSl (s 0)) fun v6 =>
    LoopR (law04_great.l2 C N Q (s 0)) [v6, (.int .i64 0)] h) (e1 hR) (fun s h hR => eS hC (fun s h => LoopR (law04_great.l2 C N Q (s 0)) [(s 3), (.int .i64 0)] h) (e1 hR) (fun s h hR => eS hC (fun s h => B.pv (V.bin .gtr (s 3) (.int .i64 400)) fun v27 =>
    Q v27 h) (eS hC (fun s h => LoopR (law04_great.l2 C N Q (s 0)) [(s 3), (s 4)] h) (e1 hR) (fun s h hR => eK (eL hC [0] [3, 4] (fun kv lv h Y1 => match kv with | [v0] => law04_great.l2 C N Q v0 lv h Y1 | _ => False) hR (fun Y1 s h hR => e1 hR)))) (fun s h hR => e1 hR)))
theorem law04_great.imp : law04_great.Imp (AC P) N := fun v0 h Q hR => eF mixed (fn := Try.f11) (fun hC => law04_great.L hC (dn Q) (startS [v0]) h hR)

def lot_Sort.I : Bx := ⟨[], [], 9, []⟩
theorem lot_Sort.L {C : CSem} (hC : CMono C) (Q : AVal → AHeap → Prop) (s : Slots) (h : AHeap) (hR : lot_Sort.cps C N (s 0) h Q) : bwp P C lot_Sort.I (Try.f12.body.getD .skip) (retB P lot_Sort.I Try.f12.results.toList Q) s h :=
  e1 hR
theorem lot_Sort.imp : lot_Sort.Imp (AC P) N := fun v0 h Q hR => eF mixed (fn := Try.f12) (fun hC => lot_Sort.L hC (dn Q) (startS [v0]) h hR)

def kit_SameLots.I : Bx := ⟨[], [], 26, [(6, [(0, []), (1, []), (2, []), (3, []), (4, []), (5, []), (6, []), (7, []), (8, [])])]⟩
theorem kit_SameLots.L {C : CSem} (hC : CMono C) (Q : AVal → AHeap → Prop) (s : Slots) (h : AHeap) (hR : kit_SameLots.cps C N (s 0) (s 1) h Q) : bwp P C kit_SameLots.I (Try.f13.body.getD .skip) (retB P kit_SameLots.I Try.f13.results.toList Q) s h :=
  eS hC (fun s h => kit_SameLots.k3 C N Q (s 0) (s 1) h) (e1 hR) (fun s h hR => eS hC (fun s h => LoopR (sameG.l4 6 [.i .i64, .s, .i .i64, .i .i64, .i .i64, .b] Q (s 0) (s 1)) [(.int .i64 0)] h) (e1 hR) (fun s h hR => eS hC (fun s h => Q (.bool true) h) (eS hC (fun s h => LoopR (sameG.l4 6 [.i .i64, .s, .i .i64, .i .i64, .i .i64, .b] Q (s 0) (s 1)) [(s 5)] h) (e1 hR) (fun s h hR => eK (eL hC [0, 1] [5] (fun kv lv h Y1 => match kv with | [v0, v1] => sameG.l4 6 [.i .i64, .s, .i .i64, .i .i64, .i .i64, .b] Q v0 v1 lv h Y1 | _ => False) hR (fun Y1 s h hR => e1 hR)))) (fun s h hR => e1 hR)))
theorem kit_SameLots.imp : kit_SameLots.Imp (AC P) N := fun v0 v1 h Q hR => eF mixed (fn := Try.f13) (fun hC => kit_SameLots.L hC (dn Q) (startS [v0, v1]) h hR)

def lot_Sweep.I : Bx := ⟨[], [], 14, [(2, [(0, []), (1, []), (3, []), (4, []), (2, [4]), (5, []), (6, []), (7, [])])]⟩
theorem lot_Sweep.L {C : CSem} (hC : CMono C) (Q : AVal → AHeap → Prop) (s : Slots) (h : AHeap) (hR : lot_Sweep.cps C N (s 0) (s 1) h Q) : bwp P C lot_Sweep.I (Try.f15.body.getD .skip) (retB P lot_Sweep.I Try.f15.results.toList Q) s h :=
  e1 hR
theorem lot_Sweep.imp : lot_Sweep.Imp (AC P) N := fun v0 v1 h Q hR => eF mixed (fn := Try.f15) (fun hC => lot_Sweep.L hC (dn Q) (startS [v0, v1]) h hR)

def lot_On.I : Bx := ⟨[7], [15, 20], 25, []⟩
theorem lot_On.L {C : CSem} (hC : CMono C) (Q : AVal → AHeap → Prop) (s : Slots) (h : AHeap) (hR : lot_On.cps C N (s 0) (s 1) h Q) : bwp P C lot_On.I (Try.f16.body.getD .skip) (retB P lot_On.I Try.f16.results.toList Q) s h :=
  eS hC (fun s h => B.call C (N 164) [(s 0), (.fn (N 52) [] [])] h fun v9 h =>
    B.pv (V.lenSl v9) fun v10 =>
    LoopR (lot_On.l2 C N Q (s 1) v9 v10) [(.int .i64 0), (.int .i64 0)] h) (e1 hR) (fun s h hR => eS hC (fun s h => B.call C (N 164) [(s 0), (.fn (N 52) [] [])] h fun v9 h =>
    B.pv (V.lenSl v9) fun v10 =>
    LoopR (lot_On.l2 C N Q (s 1) v9 v10) [(s 5), (.int .i64 0)] h) (e1 hR) (fun s h hR => eS hC (fun s h => Q (s 5) h) (eS hC (fun s h => LoopR (lot_On.l2 C N Q (s 1) (s 9) (s 10)) [(s 5), (s 11)] h) (e1 hR) (fun s h hR => eK (eL hC [1, 9, 10] [5, 11] (fun kv lv h Y1 => match kv with | [v1, v9, v10] => lot_On.l2 C N Q v1 v9 v10 lv h Y1 | _ => False) hR (fun Y1 s h hR => e1 hR)))) (fun s h hR => e1 hR)))
theorem lot_On.imp : lot_On.Imp (AC P) N := fun v0 v1 h Q hR => eF mixed (fn := Try.f16) (fun hC => lot_On.L hC (dn Q) (startS [v0, v1]) h hR)

def kit_Pick.I : Bx := ⟨[], [], 16, []⟩
theorem kit_Pick.L {C : CSem} (hC : CMono C) (Q : AVal → AHeap → Prop) (s : Slots) (h : AHeap) (hR : kit_Pick.cps C N (s 0) (s 1) h Q) : bwp P C kit_Pick.I (Try.f17.body.getD .skip) (retB P kit_Pick.I Try.f17.results.toList Q) s h :=
  e1 hR
theorem kit_Pick.imp : kit_Pick.Imp (AC P) N := fun v0 v1 h Q hR => eF mixed (fn := Try.f17) (fun hC => kit_Pick.L hC (dn Q) (startS [v0, v1]) h hR)

def lot_Of.I : Bx := ⟨[], [], 8, []⟩
theorem lot_Of.L {C : CSem} (hC : CMono C) (Q : AVal → AHeap → Prop) (s : Slots) (h : AHeap) (hR : lot_Of.cps C N (s 0) (s 1) h Q) : bwp P C lot_Of.I (Try.f18.body.getD .skip) (retB P lot_Of.I Try.f18.results.toList Q) s h :=
  e1 hR
theorem lot_Of.imp : lot_Of.Imp (AC P) N := fun v0 v1 h Q hR => eF mixed (fn := Try.f18) (fun hC => lot_Of.L hC (dn Q) (startS [v0, v1]) h hR)

def code_Right.I : Bx := ⟨[], [], 40, []⟩
theorem code_Right.L {C : CSem} (hC : CMono C) (Q : AVal → AHeap → Prop) (s : Slots) (h : AHeap) (hR : code_Right.cps C N (s 0) h Q) : bwp P C code_Right.I (Try.f19.body.getD .skip) (retB P code_Right.I Try.f19.results.toList Q) s h :=
  eS hC (fun s h => B.rangeStr h (s 0) fun v6 h =>
    LoopR (code_Right.l3 C N Q (s 0) v6) [] h) (e1 hR) (fun s h hR => eS hC (fun s h => code_Right.k1 C N Q (s 0) h) (eS hC (fun s h => LoopR (code_Right.l3 C N Q (s 0) (s 6)) [] h) (e1 hR) (fun s h hR => eK (eL hC [0, 6] [] (fun kv lv h Y1 => match kv with | [v0, v6] => code_Right.l3 C N Q v0 v6 lv h Y1 | _ => False) hR (fun Y1 s h hR => e1 hR)))) (fun s h hR => e1 hR))
theorem code_Right.imp : code_Right.Imp (AC P) N := fun v0 h Q hR => eF mixed (fn := Try.f19) (fun hC => code_Right.L hC (dn Q) (startS [v0]) h hR)

def window_Right.I : Bx := ⟨[1], [3, 7, 9, 14], 18, []⟩
theorem window_Right.L {C : CSem} (hC : CMono C) (Q : AVal → AHeap → Prop) (s : Slots) (h : AHeap) (hR : window_Right.cps C N (s 0) h Q) : bwp P C window_Right.I (Try.f20.body.getD .skip) (retB P window_Right.I Try.f20.results.toList Q) s h :=
  e1 hR
theorem window_Right.imp : window_Right.Imp (AC P) N := fun v0 h Q hR => eF mixed (fn := Try.f20) (fun hC => window_Right.L hC (dn Q) (startS [v0]) h hR)

def cmp_Or_int.I : Bx := ⟨[], [], 18, []⟩
theorem cmp_Or_int.L {C : CSem} (hC : CMono C) (Q : AVal → AHeap → Prop) (s : Slots) (h : AHeap) (hR : cmp_Or_int.cps C N (s 0) h Q) : bwp P C cmp_Or_int.I (Try.f22.body.getD .skip) (retB P cmp_Or_int.I Try.f22.results.toList Q) s h :=
  eS hC (fun s h => B.pv (V.lenSl (s 0)) fun v7 =>
    LoopR (cmp_Or_int.l2 C N Q (.int .i64 0) (s 0) v7) [(.int .i64 0)] h) (e1 hR) (fun s h hR => eS hC (fun s h => B.pv (V.lenSl (s 0)) fun v7 =>
    LoopR (cmp_Or_int.l2 C N Q (s 3) (s 0) v7) [(.int .i64 0)] h) (e1 hR) (fun s h hR => eS hC (fun s h => Q (s 3) h) (eS hC (fun s h => LoopR (cmp_Or_int.l2 C N Q (s 3) (s 6) (s 7)) [(s 8)] h) (e1 hR) (fun s h hR => eK (eL hC [3, 6, 7] [8] (fun kv lv h Y1 => match kv with | [v3, v6, v7] => cmp_Or_int.l2 C N Q v3 v6 v7 lv h Y1 | _ => False) hR (fun Y1 s h hR => e1 hR)))) (fun s h hR => e1 hR)))
theorem cmp_Or_int.imp : cmp_Or_int.Imp (AC P) N := fun v0 h Q hR => eF mixed (fn := Try.f22) (fun hC => cmp_Or_int.L hC (dn Q) (startS [v0]) h hR)

def cmp_Compare_int.I : Bx := ⟨[], [], 20, []⟩
theorem cmp_Compare_int.L {C : CSem} (hC : CMono C) (Q : AVal → AHeap → Prop) (s : Slots) (h : AHeap) (hR : cmp_Compare_int.cps C N (s 0) (s 1) h Q) : bwp P C cmp_Compare_int.I (Try.f23.body.getD .skip) (retB P cmp_Compare_int.I Try.f23.results.toList Q) s h :=
  e1 hR
theorem cmp_Compare_int.imp : cmp_Compare_int.Imp (AC P) N := fun v0 v1 h Q hR => eF mixed (fn := Try.f23) (fun hC => cmp_Compare_int.L hC (dn Q) (startS [v0, v1]) h hR)

def law04_three.I : Bx := ⟨[], [], 8, []⟩
theorem law04_three.L {C : CSem} (hC : CMono C) (Q : AVal → AHeap → Prop) (s : Slots) (h : AHeap) (hR : law04_three.cps C N h Q) : bwp P C law04_three.I (Try.f24.body.getD .skip) (retB P law04_three.I Try.f24.results.toList Q) s h :=
  e1 hR
theorem law04_three.imp : law04_three.Imp (AC P) N := fun h Q hR => eF mixed (fn := Try.f24) (fun hC => law04_three.L hC (dn Q) (startS []) h hR)

def slices_Clone_api_Lot_api_Lot.I : Bx := ⟨[], [], 8, []⟩
theorem slices_Clone_api_Lot_api_Lot.L {C : CSem} (hC : CMono C) (Q : AVal → AHeap → Prop) (s : Slots) (h : AHeap) (hR : slices_Clone_api_Lot_api_Lot.cps C N (s 0) h Q) : bwp P C slices_Clone_api_Lot_api_Lot.I (Try.f25.body.getD .skip) (retB P slices_Clone_api_Lot_api_Lot.I Try.f25.results.toList Q) s h :=
  e1 hR
theorem slices_Clone_api_Lot_api_Lot.imp : slices_Clone_api_Lot_api_Lot.Imp (AC P) N := fun v0 h Q hR => eF mixed (fn := Try.f25) (fun hC => slices_Clone_api_Lot_api_Lot.L hC (dn Q) (startS [v0]) h hR)

def slices_SortStableFunc_api_Lot_api_Lot.I : Bx := ⟨[], [], 9, []⟩
theorem slices_SortStableFunc_api_Lot_api_Lot.L {C : CSem} (hC : CMono C) (Q : AVal → AHeap → Prop) (s : Slots) (h : AHeap) (hR : slices_SortStableFunc_api_Lot_api_Lot.cps C N (s 0) (s 1) h Q) : bwp P C slices_SortStableFunc_api_Lot_api_Lot.I (Try.f26.body.getD .skip) (retB P slices_SortStableFunc_api_Lot_api_Lot.I Try.f26.results.toList Q) s h :=
  e1 hR
theorem slices_SortStableFunc_api_Lot_api_Lot.imp : slices_SortStableFunc_api_Lot_api_Lot.Imp (AC P) N := fun v0 v1 h Q hR => eF mixed (fn := Try.f26) (fun hC => slices_SortStableFunc_api_Lot_api_Lot.L hC (dn Q) (startS [v0, v1]) h hR)

def lot_Sweep_1.I : Bx := ⟨[2], [4, 7, 8], 13, []⟩
theorem lot_Sweep_1.L {C : CSem} (hC : CMono C) (Q : AVal → AHeap → Prop) (s : Slots) (h : AHeap) (hR : lot_Sweep_1.cps C N (s 0) (s 1) h Q) : bwp P C lot_Sweep_1.I (Try.f27.body.getD .skip) (retB P lot_Sweep_1.I Try.f27.results.toList Q) s h :=
  e1 hR
theorem lot_Sweep_1.imp : lot_Sweep_1.Imp (AC P) N := fun v0 v1 h Q hR => eF mixed (fn := Try.f27) (fun hC => lot_Sweep_1.L hC (dn Q) (startS [v0, v1]) h hR)

def lot_some_api_Lot.I : Bx := ⟨[7], [], 23, []⟩
theorem lot_some_api_Lot.L {C : CSem} (hC : CMono C) (Q : AVal → AHeap → Prop) (s : Slots) (h : AHeap) (hR : lot_some_api_Lot.cps C N (s 0) (s 1) h Q) : bwp P C lot_some_api_Lot.I (Try.f28.body.getD .skip) (retB P lot_some_api_Lot.I Try.f28.results.toList Q) s h :=
  eS hC (fun s h => B.pv (V.lenSl (s 0)) fun v9 =>
    LoopR (lot_some_api_Lot.l2 C N Q (s 1) (s 0) v9) [.nils, (.int .i64 0)] h) (e1 hR) (fun s h hR => eS hC (fun s h => B.pv (V.lenSl (s 0)) fun v9 =>
    LoopR (lot_some_api_Lot.l2 C N Q (s 1) (s 0) v9) [(s 5), (.int .i64 0)] h) (e1 hR) (fun s h hR => eS hC (fun s h => Q (s 5) h) (eS hC (fun s h => LoopR (lot_some_api_Lot.l2 C N Q (s 1) (s 8) (s 9)) [(s 5), (s 10)] h) (e1 hR) (fun s h hR => eK (eL hC [1, 8, 9] [5, 10] (fun kv lv h Y1 => match kv with | [v1, v8, v9] => lot_some_api_Lot.l2 C N Q v1 v8 v9 lv h Y1 | _ => False) hR (fun Y1 s h hR => e1 hR)))) (fun s h hR => e1 hR)))
theorem lot_some_api_Lot.imp : lot_some_api_Lot.Imp (AC P) N := fun v0 v1 h Q hR => eF mixed (fn := Try.f28) (fun hC => lot_some_api_Lot.L hC (dn Q) (startS [v0, v1]) h hR)

def lot_Sweep_2.I : Bx := ⟨[2], [], 8, []⟩
theorem lot_Sweep_2.L {C : CSem} (hC : CMono C) (Q : AVal → AHeap → Prop) (s : Slots) (h : AHeap) (hR : lot_Sweep_2.cps C N (s 0) (s 1) h Q) : bwp P C lot_Sweep_2.I (Try.f29.body.getD .skip) (retB P lot_Sweep_2.I Try.f29.results.toList Q) s h :=
  e1 hR
theorem lot_Sweep_2.imp : lot_Sweep_2.Imp (AC P) N := fun v0 v1 h Q hR => eF mixed (fn := Try.f29) (fun hC => lot_Sweep_2.L hC (dn Q) (startS [v0, v1]) h hR)

def window_Has.I : Bx := ⟨[2], [8, 15], 19, []⟩
theorem window_Has.L {C : CSem} (hC : CMono C) (Q : AVal → AHeap → Prop) (s : Slots) (h : AHeap) (hR : window_Has.cps C N (s 0) (s 1) h Q) : bwp P C window_Has.I (Try.f30.body.getD .skip) (retB P window_Has.I Try.f30.results.toList Q) s h :=
  e1 hR
theorem window_Has.imp : window_Has.Imp (AC P) N := fun v0 v1 h Q hR => eF mixed (fn := Try.f30) (fun hC => window_Has.L hC (dn Q) (startS [v0, v1]) h hR)

def lot_Of_1.I : Bx := ⟨[2], [4], 8, []⟩
theorem lot_Of_1.L {C : CSem} (hC : CMono C) (Q : AVal → AHeap → Prop) (s : Slots) (h : AHeap) (hR : lot_Of_1.cps C N (s 0) (s 1) h Q) : bwp P C lot_Of_1.I (Try.f31.body.getD .skip) (retB P lot_Of_1.I Try.f31.results.toList Q) s h :=
  e1 hR
theorem lot_Of_1.imp : lot_Of_1.Imp (AC P) N := fun v0 v1 h Q hR => eF mixed (fn := Try.f31) (fun hC => lot_Of_1.L hC (dn Q) (startS [v0, v1]) h hR)

def cmp_isNaN_int.I : Bx := ⟨[], [], 6, []⟩
theorem cmp_isNaN_int.L {C : CSem} (hC : CMono C) (Q : AVal → AHeap → Prop) (s : Slots) (h : AHeap) (hR : cmp_isNaN_int.cps C N (s 0) h Q) : bwp P C cmp_isNaN_int.I (Try.f32.body.getD .skip) (retB P cmp_isNaN_int.I Try.f32.results.toList Q) s h :=
  e1 hR
theorem cmp_isNaN_int.imp : cmp_isNaN_int.Imp (AC P) N := fun v0 h Q hR => eF mixed (fn := Try.f32) (fun hC => cmp_isNaN_int.L hC (dn Q) (startS [v0]) h hR)

def slices_stableCmpFunc_api_Lot.I : Bx := ⟨[], [], 63, []⟩
theorem slices_stableCmpFunc_api_Lot.L {C : CSem} (hC : CMono C) (Q : AVal → AHeap → Prop) (s : Slots) (h : AHeap) (hR : slices_stableCmpFunc_api_Lot.cps C N (s 0) (s 1) (s 2) h Q) : bwp P C slices_stableCmpFunc_api_Lot.I (Try.f33.body.getD .skip) (retB P slices_stableCmpFunc_api_Lot.I Try.f33.results.toList Q) s h :=
  eS hC (fun s h => LoopR (slices_stableCmpFuncG.l7 C (opsF 6 56 [.int .i64 0, .str [], .int .i64 0, .int .i64 0, .int .i64 0, .bool false] 0 []) (N 167) (N 168) Q (s 0) (s 1) (s 2) (s 6)) [(.int .i64 0), (s 6)] h) (e1 hR) (fun s h hR => eS hC (fun s h => LoopR (slices_stableCmpFuncG.l7 C (opsF 6 56 [.int .i64 0, .str [], .int .i64 0, .int .i64 0, .int .i64 0, .bool false] 0 []) (N 167) (N 168) Q (s 0) (s 1) (s 2) (s 6)) [(s 7), (s 8)] h) (e1 hR) (fun s h hR => eS hC (fun s h => B.call C (N 168) [(s 0), (s 7), (s 1), (s 2)] h fun v27 h =>
    LoopR (slices_stableCmpFuncG.l5 C (opsF 6 56 [.int .i64 0, .str [], .int .i64 0, .int .i64 0, .int .i64 0, .bool false] 0 []) (N 167) (N 168) Q (s 0) (s 1) (s 2)) [(s 6)] h) (eK (eL hC [0, 1, 2, 6] [7, 8] (fun kv lv h Y3 => match kv with | [v0, v1, v2, v6] => slices_stableCmpFuncG.l7 C (opsF 6 56 [.int .i64 0, .str [], .int .i64 0, .int .i64 0, .int .i64 0, .bool false] 0 []) (N 167) (N 168) Q v0 v1 v2 v6 lv h Y3 | _ => False) hR (fun Y3 s h hR => e1 hR))) (fun s h hR => eS hC (fun s h => LoopR (slices_stableCmpFuncG.l5 C (opsF 6 56 [.int .i64 0, .str [], .int .i64 0, .int .i64 0, .int .i64 0, .bool false] 0 []) (N 167) (N 168) Q (s 0) (s 1) (s 2)) [(s 6)] h) (e1 hR) (fun s h hR => eK (eL hC [0, 1, 2] [6] (fun kv lv h Y1 => match kv with | [v0, v1, v2] => slices_stableCmpFuncG.l5 C (opsF 6 56 [.int .i64 0, .str [], .int .i64 0, .int .i64 0, .int .i64 0, .bool false] 0 []) (N 167) (N 168) Q v0 v1 v2 lv h Y1 | _ => False) hR (fun Y1 s h hR => eS hC (fun s h => B.pv (V.bin .mul (.int .i64 2) (s 6)) fun v32 =>
    LoopR (slices_stableCmpFuncG.l3 C (opsF 6 56 [.int .i64 0, .str [], .int .i64 0, .int .i64 0, .int .i64 0, .bool false] 0 []) (N 167) (N 168) Q Y1 (s 0) (s 1) (s 2) (s 6)) [(.int .i64 0), v32] h) (e1 hR) (fun s h hR => eK (eS hC (fun s h => LoopR (slices_stableCmpFuncG.l3 C (opsF 6 56 [.int .i64 0, .str [], .int .i64 0, .int .i64 0, .int .i64 0, .bool false] 0 []) (N 167) (N 168) Q Y1 (s 0) (s 1) (s 2) (s 6)) [(s 7), (s 8)] h) (e1 hR) (fun s h hR => eS hC (fun s h => slices_stableCmpFuncG.k1 C (opsF 6 56 [.int .i64 0, .str [], .int .i64 0, .int .i64 0, .int .i64 0, .bool false] 0 []) (N 167) (N 168) Q Y1 (s 0) (s 1) (s 2) (s 6) (s 7) h) (eK (eL hC [0, 1, 2, 6] [7, 8] (fun kv lv h Y2 => match kv with | [v0, v1, v2, v6] => slices_stableCmpFuncG.l3 C (opsF 6 56 [.int .i64 0, .str [], .int .i64 0, .int .i64 0, .int .i64 0, .bool false] 0 []) (N 167) (N 168) Q Y1 v0 v1 v2 v6 lv h Y2 | _ => False) hR (fun Y2 s h hR => e1 hR))) (fun s h hR => e1 hR))))))))))
theorem slices_stableCmpFunc_api_Lot.imp : slices_stableCmpFunc_api_Lot.Imp (AC P) N := fun v0 v1 v2 h Q hR => eF mixed (fn := Try.f33) (fun hC => slices_stableCmpFunc_api_Lot.L hC (dn Q) (startS [v0, v1, v2]) h hR)

def slices_insertionSortCmpFunc_api_Lot.I : Bx := ⟨[], [], 53, [(4, [(0, []), (1, []), (2, []), (3, []), (4, []), (5, []), (6, []), (7, []), (8, []), (9, []), (10, []), (11, []), (12, []), (13, []), (14, []), (15, []), (16, [])]), (6, [(0, []), (1, []), (2, []), (3, []), (4, []), (5, []), (6, []), (7, []), (8, []), (9, []), (10, []), (11, []), (12, []), (13, []), (14, []), (15, []), (16, []), (17, [])])]⟩
theorem slices_insertionSortCmpFunc_api_Lot.L {C : CSem} (hC : CMono C) (Q : AVal → AHeap → Prop) (s : Slots) (h : AHeap) (hR : slices_insertionSortCmpFunc_api_Lot.cps C N (s 0) (s 1) (s 2) (s 3) h Q) : bwp P C slices_insertionSortCmpFunc_api_Lot.I (Try.f34.body.getD .skip) (retB P slices_insertionSortCmpFunc_api_Lot.I Try.f34.results.toList Q) s h :=
  eS hC (fun s h => LoopR (slices_insertionSortCmpFuncG.l3 C (opsF 6 56 [.int .i64 0, .str [], .int .i64 0, .int .i64 0, .int .i64 0, .bool false] 0 []) Q (s 0) (s 1) (s 2) (s 3)) [(s 8)] h) (e1 hR) (fun s h hR => eK (eL hC [0, 1, 2, 3] [8] (fun kv lv h Y1 => match kv with | [v0, v1, v2, v3] => slices_insertionSortCmpFuncG.l3 C (opsF 6 56 [.int .i64 0, .str [], .int .i64 0, .int .i64 0, .int .i64 0, .bool false] 0 []) Q v0 v1 v2 v3 lv h Y1 | _ => False) hR (fun Y1 s h hR => eS hC (fun s h => LoopR (slices_insertionSortCmpFuncG.l2 C (opsF 6 56 [.int .i64 0, .str [], .int .i64 0, .int .i64 0, .int .i64 0, .bool false] 0 []) Q Y1 (s 0) (s 1) (s 2) (s 3) (s 8)) [(s 8)] h) (e1 hR) (fun s h hR => eS hC (fun s h => B.pv (V.bin .add (s 8) (.int .i64 1)) fun v16 =>
    Y1 [v16] h) (eK (eS hC (fun s h => LoopR (slices_insertionSortCmpFuncG.l2 C (opsF 6 56 [.int .i64 0, .str [], .int .i64 0, .int .i64 0, .int .i64 0, .bool false] 0 []) Q Y1 (s 0) (s 1) (s 2) (s 3) (s 8)) [(s 9)] h) (e1 hR) (fun s h hR => eK (eL hC [0, 1, 2, 3, 8] [9] (fun kv lv h Y2 => match kv with | [v0, v1, v2, v3, v8] => slices_insertionSortCmpFuncG.l2 C (opsF 6 56 [.int .i64 0, .str [], .int .i64 0, .int .i64 0, .int .i64 0, .bool false] 0 []) Q Y1 v0 v1 v2 v3 v8 lv h Y2 | _ => False) hR (fun Y2 s h hR => e1 hR))))) (fun s h hR => e1 hR)))))
theorem slices_insertionSortCmpFunc_api_Lot.imp : slices_insertionSortCmpFunc_api_Lot.Imp (AC P) N := fun v0 v1 v2 v3 h Q hR => eF mixed (fn := Try.f34) (fun hC => slices_insertionSortCmpFunc_api_Lot.L hC (dn Q) (startS [v0, v1, v2, v3]) h hR)

def slices_symMergeCmpFunc_api_Lot.I : Bx := ⟨[], [], 220, [(5, [(0, []), (1, []), (2, []), (3, []), (4, []), (5, []), (6, []), (7, []), (8, []), (9, []), (10, [])]), (11, [(0, []), (1, []), (2, []), (3, []), (4, []), (5, []), (6, []), (7, []), (8, []), (9, []), (10, []), (11, []), (12, []), (13, []), (14, []), (15, []), (16, []), (17, [])]), (17, [(0, []), (1, []), (2, []), (3, []), (4, []), (5, []), (6, []), (7, []), (8, []), (9, []), (10, []), (11, [])]), (23, [(0, []), (1, []), (2, []), (3, []), (4, []), (5, []), (6, []), (7, []), (8, []), (9, []), (10, []), (11, []), (12, []), (13, []), (14, []), (15, []), (16, []), (17, [])]), (35, [(0, []), (1, []), (2, []), (3, []), (4, []), (5, []), (6, []), (7, []), (8, []), (9, []), (10, []), (11, []), (12, []), (13, [])])]⟩
theorem slices_symMergeCmpFunc_api_Lot.L {C : CSem} (hC : CMono C) (Q : AVal → AHeap → Prop) (s : Slots) (h : AHeap) (hR : slices_symMergeCmpFunc_api_Lot.cps C N (s 0) (s 1) (s 2) (s 3) (s 4) h Q) : bwp P C slices_symMergeCmpFunc_api_Lot.I (Try.f35.body.getD .skip) (retB P slices_symMergeCmpFunc_api_Lot.I Try.f35.results.toList Q) s h :=
  eS hC (fun s h => slices_symMergeCmpFuncG.k12 C (opsF 6 56 [.int .i64 0, .str [], .int .i64 0, .int .i64 0, .int .i64 0, .bool false] 0 []) (N 167) (N 169) Q (s 0) (s 1) (s 2) (s 3) (s 4) h) (eS hC (fun s h => B.cond (s 28) (LoopR (slices_symMergeCmpFuncG.l16 C (opsF 6 56 [.int .i64 0, .str [], .int .i64 0, .int .i64 0, .int .i64 0, .bool false] 0 []) (N 167) (N 169) Q (s 0) (s 1) (s 4)) [(s 2), (s 3)] h) (slices_symMergeCmpFuncG.k12 C (opsF 6 56 [.int .i64 0, .str [], .int .i64 0, .int .i64 0, .int .i64 0, .bool false] 0 []) (N 167) (N 169) Q (s 0) (s 1) (s 2) (s 3) (s 4) h)) (e1 hR) (fun s h hR => eC 28 hR (fun hR => eS hC (fun s h => LoopR (slices_symMergeCmpFuncG.l16 C (opsF 6 56 [.int .i64 0, .str [], .int .i64 0, .int .i64 0, .int .i64 0, .bool false] 0 []) (N 167) (N 169) Q (s 0) (s 1) (s 4)) [(s 10), (s 3)] h) (e1 hR) (fun s h hR => eS hC (fun s h => LoopR (slices_symMergeCmpFuncG.l16 C (opsF 6 56 [.int .i64 0, .str [], .int .i64 0, .int .i64 0, .int .i64 0, .bool false] 0 []) (N 167) (N 169) Q (s 0) (s 1) (s 4)) [(s 10), (s 11)] h) (e1 hR) (fun s h hR => eS hC (fun s h => LoopR (slices_symMergeCmpFuncG.l14 C (opsF 6 56 [.int .i64 0, .str [], .int .i64 0, .int .i64 0, .int .i64 0, .bool false] 0 []) (N 167) (N 169) Q (s 0) (s 10)) [(s 1)] h) (eK (eL hC [0, 1, 4] [10, 11] (fun kv lv h Y5 => match kv with | [v0, v1, v4] => slices_symMergeCmpFuncG.l16 C (opsF 6 56 [.int .i64 0, .str [], .int .i64 0, .int .i64 0, .int .i64 0, .bool false] 0 []) (N 167) (N 169) Q v0 v1 v4 lv h Y5 | _ => False) hR (fun Y5 s h hR => e1 hR))) (fun s h hR => eS hC (fun s h => Q (.tup []) h) (eS hC (fun s h => LoopR (slices_symMergeCmpFuncG.l14 C (opsF 6 56 [.int .i64 0, .str [], .int .i64 0, .int .i64 0, .int .i64 0, .bool false] 0 []) (N 167) (N 169) Q (s 0) (s 10)) [(s 13)] h) (e1 hR) (fun s h hR => eK (eL hC [0, 10] [13] (fun kv lv h Y4 => match kv with | [v0, v10] => slices_symMergeCmpFuncG.l14 C (opsF 6 56 [.int .i64 0, .str [], .int .i64 0, .int .i64 0, .int .i64 0, .bool false] 0 []) (N 167) (N 169) Q v0 v10 lv h Y4 | _ => False) hR (fun Y4 s h hR => e1 hR)))) (fun s h hR => e1 hR))))) (fun hR => e1 hR))) (fun s h hR => eS hC (fun s h => slices_symMergeCmpFuncG.k7 C (opsF 6 56 [.int .i64 0, .str [], .int .i64 0, .int .i64 0, .int .i64 0, .bool false] 0 []) (N 167) (N 169) Q (s 0) (s 1) (s 2) (s 3) (s 4) h) (eS hC (fun s h => B.cond (s 80) (LoopR (slices_symMergeCmpFuncG.l11 C (opsF 6 56 [.int .i64 0, .str [], .int .i64 0, .int .i64 0, .int .i64 0, .bool false] 0 []) (N 167) (N 169) Q (s 0) (s 2) (s 4)) [(s 1), (s 2)] h) (slices_symMergeCmpFuncG.k7 C (opsF 6 56 [.int .i64 0, .str [], .int .i64 0, .int .i64 0, .int .i64 0, .bool false] 0 []) (N 167) (N 169) Q (s 0) (s 1) (s 2) (s 3) (s 4) h)) (e1 hR) (fun s h hR => eC 80 hR (fun hR => eS hC (fun s h => LoopR (slices_symMergeCmpFuncG.l11 C (opsF 6 56 [.int .i64 0, .str [], .int .i64 0, .int .i64 0, .int .i64 0, .bool false] 0 []) (N 167) (N 169) Q (s 0) (s 2) (s 4)) [(s 14), (s 2)] h) (e1 hR) (fun s h hR => eS hC (fun s h => LoopR (slices_symMergeCmpFuncG.l11 C (opsF 6 56 [.int .i64 0, .str [], .int .i64 0, .int .i64 0, .int .i64 0, .bool false] 0 []) (N 167) (N 169) Q (s 0) (s 2) (s 4)) [(s 14), (s 15)] h) (e1 hR) (fun s h hR => eS hC (fun s h => LoopR (slices_symMergeCmpFuncG.l9 C (opsF 6 56 [.int .i64 0, .str [], .int .i64 0, .int .i64 0, .int .i64 0, .bool false] 0 []) (N 167) (N 169) Q (s 0) (s 14)) [(s 2)] h) (eK (eL hC [0, 2, 4] [14, 15] (fun kv lv h Y3 => match kv with | [v0, v2, v4] => slices_symMergeCmpFuncG.l11 C (opsF 6 56 [.int .i64 0, .str [], .int .i64 0, .int .i64 0, .int .i64 0, .bool false] 0 []) (N 167) (N 169) Q v0 v2 v4 lv h Y3 | _ => False) hR (fun Y3 s h hR => e1 hR))) (fun s h hR => eS hC (fun s h => Q (.tup []) h) (eS hC (fun s h => LoopR (slices_symMergeCmpFuncG.l9 C (opsF 6 56 [.int .i64 0, .str [], .int .i64 0, .int .i64 0, .int .i64 0, .bool false] 0 []) (N 167) (N 169) Q (s 0) (s 14)) [(s 17)] h) (e1 hR) (fun s h hR => eK (eL hC [0, 14] [17] (fun kv lv h Y2 => match kv with | [v0, v14] => slices_symMergeCmpFuncG.l9 C (opsF 6 56 [.int .i64 0, .str [], .int .i64 0, .int .i64 0, .int .i64 0, .bool false] 0 []) (N 167) (N 169) Q v0 v14 lv h Y2 | _ => False) hR (fun Y2 s h hR => e1 hR)))) (fun s h hR => e1 hR))))) (fun hR => e1 hR))) (fun s h hR => eS hC (fun s h => B.pv (V.bin .add (s 18) (s 2)) fun v137 =>
    slices_symMergeCmpFuncG.k6 C (opsF 6 56 [.int .i64 0, .str [], .int .i64 0, .int .i64 0, .int .i64 0, .bool false] 0 []) (N 167) (N 169) Q (s 0) (s 1) (s 2) (s 3) (s 4) (s 18) v137 h) (e1 hR) (fun s h hR => eS hC (fun s h => slices_symMergeCmpFuncG.k6 C (opsF 6 56 [.int .i64 0, .str [], .int .i64 0, .int .i64 0, .int .i64 0, .bool false] 0 []) (N 167) (N 169) Q (s 0) (s 1) (s 2) (s 3) (s 4) (s 18) (s 19) h) (e1 hR) (fun s h hR => eS hC (fun s h => slices_symMergeCmpFuncG.k6 C (opsF 6 56 [.int .i64 0, .str [], .int .i64 0, .int .i64 0, .int .i64 0, .bool false] 0 []) (N 167) (N 169) Q (s 0) (s 1) (s 2) (s 3) (s 4) (s 18) (s 19) h) (e1 hR) (fun s h hR => eS hC (fun s h => B.pv (V.bin .sub (s 19) (.int .i64 1)) fun v148 =>
    LoopR (slices_symMergeCmpFuncG.l5 C (opsF 6 56 [.int .i64 0, .str [], .int .i64 0, .int .i64 0, .int .i64 0, .bool false] 0 []) (N 167) (N 169) Q (s 0) (s 1) (s 2) (s 3) (s 4) (s 18) (s 19) v148) [(s 20), (s 21)] h) (e1 hR) (fun s h hR => eS hC (fun s h => LoopR (slices_symMergeCmpFuncG.l5 C (opsF 6 56 [.int .i64 0, .str [], .int .i64 0, .int .i64 0, .int .i64 0, .bool false] 0 []) (N 167) (N 169) Q (s 0) (s 1) (s 2) (s 3) (s 4) (s 18) (s 19) (s 22)) [(s 20), (s 21)] h) (e1 hR) (fun s h hR => eS hC (fun s h => B.pv (V.bin .sub (s 19) (s 20)) fun v177 =>
    slices_symMergeCmpFuncG.k3 C (opsF 6 56 [.int .i64 0, .str [], .int .i64 0, .int .i64 0, .int .i64 0, .bool false] 0 []) (N 167) (N 169) Q (s 0) (s 1) (s 2) (s 3) (s 4) (s 18) (s 20) v177 h) (eK (eL hC [0, 1, 2, 3, 4, 18, 19, 22] [20, 21] (fun kv lv h Y1 => match kv with | [v0, v1, v2, v3, v4, v18, v19, v22] => slices_symMergeCmpFuncG.l5 C (opsF 6 56 [.int .i64 0, .str [], .int .i64 0, .int .i64 0, .int .i64 0, .bool false] 0 []) (N 167) (N 169) Q v0 v1 v2 v3 v4 v18 v19 v22 lv h Y1 | _ => False) hR (fun Y1 s h hR => e1 hR))) (fun s h hR => eS hC (fun s h => slices_symMergeCmpFuncG.k3 C (opsF 6 56 [.int .i64 0, .str [], .int .i64 0, .int .i64 0, .int .i64 0, .bool false] 0 []) (N 167) (N 169) Q (s 0) (s 1) (s 2) (s 3) (s 4) (s 18) (s 20) (s 24) h) (e1 hR) (fun s h hR => eS hC (fun s h => slices_symMergeCmpFuncG.k2 C (opsF 6 56 [.int .i64 0, .str [], .int .i64 0, .int .i64 0, .int .i64 0, .bool false] 0 []) (N 167) (N 169) Q (s 0) (s 1) (s 3) (s 4) (s 18) (s 20) (s 24) h) (e1 hR) (fun s h hR => eS hC (fun s h => slices_symMergeCmpFuncG.k1 C (opsF 6 56 [.int .i64 0, .str [], .int .i64 0, .int .i64 0, .int .i64 0, .bool false] 0 []) (N 167) (N 169) Q (s 0) (s 3) (s 4) (s 18) (s 24) h) (e1 hR) (fun s h hR => e1 hR)))))))))))
theorem slices_symMergeCmpFunc_api_Lot.imp : slices_symMergeCmpFunc_api_Lot.Imp (AC P) N := fun v0 v1 v2 v3 v4 h Q hR => eF mixed (fn := Try.f35) (fun hC => slices_symMergeCmpFunc_api_Lot.L hC (dn Q) (startS [v0, v1, v2, v3, v4]) h hR)

def slices_rotateCmpFunc_api_Lot.I : Bx := ⟨[], [], 58, []⟩
theorem slices_rotateCmpFunc_api_Lot.L {C : CSem} (hC : CMono C) (Q : AVal → AHeap → Prop) (s : Slots) (h : AHeap) (hR : slices_rotateCmpFunc_api_Lot.cps C N (s 0) (s 1) (s 2) (s 3) (s 4) h Q) : bwp P C slices_rotateCmpFunc_api_Lot.I (Try.f36.body.getD .skip) (retB P slices_rotateCmpFunc_api_Lot.I Try.f36.results.toList Q) s h :=
  eS hC (fun s h => B.pv (V.bin .sub (s 3) (s 2)) fun v17 =>
    LoopR (slices_rotateCmpFuncG.l2 C (opsF 6 56 [.int .i64 0, .str [], .int .i64 0, .int .i64 0, .int .i64 0, .bool false] 0 []) (N 170) Q (s 0) (s 2) (s 4)) [(s 10), v17] h) (e1 hR) (fun s h hR => eS hC (fun s h => LoopR (slices_rotateCmpFuncG.l2 C (opsF 6 56 [.int .i64 0, .str [], .int .i64 0, .int .i64 0, .int .i64 0, .bool false] 0 []) (N 170) Q (s 0) (s 2) (s 4)) [(s 10), (s 11)] h) (e1 hR) (fun s h hR => eS hC (fun s h => B.pv (V.bin .sub (s 2) (s 10)) fun v53 =>
    B.call C (N 170) [(s 0), v53, (s 2), (s 10), (s 4)] h fun v57 h =>
    Q (.tup []) h) (eK (eL hC [0, 2, 4] [10, 11] (fun kv lv h Y1 => match kv with | [v0, v2, v4] => slices_rotateCmpFuncG.l2 C (opsF 6 56 [.int .i64 0, .str [], .int .i64 0, .int .i64 0, .int .i64 0, .bool false] 0 []) (N 170) Q v0 v2 v4 lv h Y1 | _ => False) hR (fun Y1 s h hR => e1 hR))) (fun s h hR => e1 hR)))
theorem slices_rotateCmpFunc_api_Lot.imp : slices_rotateCmpFunc_api_Lot.Imp (AC P) N := fun v0 v1 v2 v3 v4 h Q hR => eF mixed (fn := Try.f36) (fun hC => slices_rotateCmpFunc_api_Lot.L hC (dn Q) (startS [v0, v1, v2, v3, v4]) h hR)

def slices_swapRangeCmpFunc_api_Lot.I : Bx := ⟨[], [], 38, [(3, [(0, []), (1, []), (2, []), (3, []), (4, []), (5, []), (6, []), (7, []), (8, []), (9, []), (10, []), (11, []), (12, []), (13, []), (14, []), (15, []), (16, []), (17, []), (18, []), (19, []), (20, []), (21, []), (22, []), (23, [])])]⟩
theorem slices_swapRangeCmpFunc_api_Lot.L {C : CSem} (hC : CMono C) (Q : AVal → AHeap → Prop) (s : Slots) (h : AHeap) (hR : slices_swapRangeCmpFunc_api_Lot.cps C N (s 0) (s 1) (s 2) (s 3) (s 4) h Q) : bwp P C slices_swapRangeCmpFunc_api_Lot.I (Try.f37.body.getD .skip) (retB P slices_swapRangeCmpFunc_api_Lot.I Try.f37.results.toList Q) s h :=
  eS hC (fun s h => LoopR (slices_swapRangeCmpFuncG.l2 C (opsF 6 56 [.int .i64 0, .str [], .int .i64 0, .int .i64 0, .int .i64 0, .bool false] 0 []) Q (s 0) (s 1) (s 2) (s 3)) [(s 10)] h) (e1 hR) (fun s h hR => eK (eL hC [0, 1, 2, 3] [10] (fun kv lv h Y1 => match kv with | [v0, v1, v2, v3] => slices_swapRangeCmpFuncG.l2 C (opsF 6 56 [.int .i64 0, .str [], .int .i64 0, .int .i64 0, .int .i64 0, .bool false] 0 []) Q v0 v1 v2 v3 lv h Y1 | _ => False) hR (fun Y1 s h hR => e1 hR)))
theorem slices_swapRangeCmpFunc_api_Lot.imp : slices_swapRangeCmpFunc_api_Lot.Imp (AC P) N := fun v0 v1 v2 v3 v4 h Q hR => eF mixed (fn := Try.f37) (fun hC => slices_swapRangeCmpFunc_api_Lot.L hC (dn Q) (startS [v0, v1, v2, v3, v4]) h hR)

end Go.Ab.S04

/- What is proved: contracts of codes' functions, the program's and the document's. No conditions. -/
set_option linter.unusedVariables false
set_option linter.unusedSimpArgs false
namespace Go.Ab
variable {C : CSem} {N : Nat → Nat}

/-! Bytes. -/
theorem nextStr_at {h : AHeap} {id : Nat} {b : Blk} {s : List UInt8} {pos : Nat} {K : AVal → AHeap → Prop} (hb : h id = some b) (ho : b.obj = some (.iter s pos)) :
    (B.nextStr h (.ptr id 0 0) K : Prop) = if pos < s.length then K (.tup [.bool true, .int .i64 pos, .int .i32 (A.rune s pos).1]) (upd h id { b with obj := some (.iter s (pos + (A.rune s pos).2)) }) else K (.tup [.bool false]) h := by
  simp only [B.nextStr, A.nextStr, hb, ho]
theorem get_bang {s : List UInt8} {pos : Nat} {b : UInt8} (hb : s[pos]? = some b) : ((⟨s.toArray⟩ : ByteArray).get! pos) = b := by
  simp [ByteArray.get!, hb]
theorem rune_ascii {s : List UInt8} {pos : Nat} {b : UInt8} (hb : s[pos]? = some b) (h : b.toNat < 128) : A.rune s pos = (b.toNat, 1) := by
  unfold A.rune Utf8.decode
  simp only [Nat.add_zero, get_bang hb]
  rw [if_pos h]
theorem rune_high {s : List UInt8} {pos : Nat} {b : UInt8} (hb : s[pos]? = some b) (h : 128 ≤ b.toNat) : 128 ≤ (A.rune s pos).1 := by
  unfold A.rune Utf8.decode
  simp only [Nat.add_zero, get_bang hb]
  rw [if_neg (by omega)]
  split
  · split <;> simp_all [Utf8.runeError]
  · split
    · split <;> simp_all [Utf8.runeError]; omega
    · split
      · split <;> simp_all [Utf8.runeError]; omega
      · simp [Utf8.runeError]

/-! Codes. -/
def codeCh (i : Nat) (b : UInt8) : Bool := (decide (65 ≤ b.toNat) && decide (b.toNat ≤ 90)) || (decide (0 < i) && ((decide (48 ≤ b.toNat) && decide (b.toNat ≤ 57)) || decide (b.toNat = 45)))
def codeTo (s : List UInt8) : Nat → Bool
  | 0 => true
  | n + 1 => codeTo s n && codeCh n (s.getD n 0)
def codeRight (s : List UInt8) : Bool := !s.isEmpty && decide (s.length ≤ 12) && codeTo s s.length
theorem codeTo_bad {s : List UInt8} {k : Nat} (h : codeTo s k = true) {b : UInt8} (hb : s[k]? = some b) (hc : codeCh k b = false) : ∀ n, k < n → codeTo s n = false
  | 0, h => by omega
  | n + 1, hn => by
    by_cases e : n = k
    · subst e; simp [codeTo, List.getD, hb, hc]
    · rw [codeTo, codeTo_bad h hb hc n (by omega)]; rfl
theorem codeTo_step {s : List UInt8} {k : Nat} (h : codeTo s k = true) {b : UInt8} (hb : s[k]? = some b) (hc : codeCh k b = true) : codeTo s (k + 1) = true := by
  simp [codeTo, List.getD, hb, hc, h]
theorem codeRight_bad {s : List UInt8} {k : Nat} (h : codeTo s k = true) {b : UInt8} (hb : s[k]? = some b) (hc : codeCh k b = false) : codeRight s = false := by
  have := codeTo_bad h hb hc s.length (List.getElem?_eq_some_iff.1 hb).1
  simp [codeRight, this]

def code_Right.Spec (C : CSem) (N : Nat → Nat) : Prop := ∀ (s : List UInt8) (h : AHeap) (Q : AVal → AHeap → Prop), Q (.bool (codeRight s)) h → C (N 53) [.str s] h Q
def itB (s : List UInt8) (k : Nat) : Blk := { cells := [], gens := [], next := 1, own := true, obj := some (.iter s k) }
theorem code_Right.spec (i : code_Right.Imp C N) : code_Right.Spec C N := by
  intro s h Q hq
  apply i
  simp only [code_Right.cps]
  intro id hid
  refine LoopR.intro (fun n vs hh => ∃ k, k + n = s.length ∧ vs = [] ∧ hh = upd h id (itB s k) ∧ codeTo s k = true) s.length ?_ ⟨0, by simp, rfl, rfl, rfl⟩
  rintro Y n vs hh ⟨k, hn, rfl, rfl, hc⟩ hY
  simp only [code_Right.l3, code_Right.k2]
  rw [nextStr_at (upd_same ..) rfl]
  have hle : h.le (upd h id (itB s k)) := le_upd _ hid
  split
  · rename_i hk
    obtain ⟨b, hb⟩ := get_lt hk
    by_cases hlt : b.toNat < 128
    · rw [rune_ascii hb hlt, upd_upd]
      have next : codeCh k b = true → Y [] (upd h id { cells := (itB s k).cells, gens := (itB s k).gens, next := (itB s k).next, own := (itB s k).own, obj := some (.iter s (k + 1)) }) := fun hcc =>
        hY (n - 1) _ _ (by omega) ⟨k + 1, by omega, rfl, rfl, codeTo_step hc hb hcc⟩
      simp +contextual -dsimp
      refine B.cond_bool (fun h1 => ?_) (fun h1 => ?_)
      · exact next (by simp at h1; simp [codeCh]; omega)
      · simp +contextual -dsimp
        refine B.cond_bool (fun h2 => ?_) (fun h2 => ?_)
        · exact next (by simp at h2; simp [codeCh]; omega)
        · have := codeRight_bad hc hb (by simp at h1 h2; simp [codeCh]; omega)
          rw [this] at hq
          exact dn_le (le_upd _ hid) hq
    · have hr := rune_high hb (by omega)
      have := codeRight_bad hc hb (by simp [codeCh]; omega)
      rw [this] at hq
      simp +contextual -dsimp
      refine B.cond_bool (fun h1 => ?_) (fun h1 => ?_)
      · simp at h1; omega
      · simp +contextual -dsimp
        refine B.cond_bool (fun h2 => ?_) (fun h2 => ?_)
        · simp at h2; omega
        · exact dn_le (le_upd _ hid) hq
  · have hk : k = s.length := by omega
    subst hk
    have : codeRight s = (!decide (s = []) && decide ((s.length : Int) ≤ 12)) := by
      unfold codeRight
      rw [hc, Bool.and_true]
      cases s with
      | nil => rfl
      | cons a r => simp; omega
    rw [this] at hq
    simp +contextual -dsimp
    exact dn_le hle hq

/-! Bytes put together. -/
end Go.Ab

/- What is proved: contracts of windows' functions. No conditions. -/
set_option linter.unusedVariables false
namespace Go.Ab
variable {C : CSem} {N : Nat → Nat}

def Window.right (w : Window) : Bool := decide (0 ≤ w.From) && decide (w.From ≤ w.Until) && decide (w.Until ≤ 4001)

def window_Right.Spec (C : CSem) (N : Nat → Nat) : Prop := ∀ (a b : Int) (h : AHeap) (Q : AVal → AHeap → Prop), Q (.bool (Window.right ⟨a, b⟩)) h → C (N 5) [.agg [.int .i64 a, .int .i64 b]] h Q
theorem window_Right.spec (i : window_Right.Imp C N) : window_Right.Spec C N := by
  intro a b h Q hq
  apply i
  simp +contextual -dsimp
  exact dn_same hq

def Window.zero : Window := ⟨0, 0⟩
end Go.Ab

/- What is told: residuals: what each function does in the abstract memory, printed by a program of mine. Definitions alone. -/
set_option linter.unusedVariables false
namespace Go.Ab
end Go.Ab

/- What is told: residuals: what each function does in the abstract memory, printed by a program of mine. Definitions alone. -/
set_option linter.unusedVariables false
namespace Go.Ab
end Go.Ab

/- What is told: residuals: what each function does in the abstract memory, printed by a program of mine. Definitions alone. -/
set_option linter.unusedVariables false
namespace Go.Ab
end Go.Ab

/- What is proved: contracts of answers' functions, the program's and the document's: are they right, their bytes. No conditions. -/
set_option linter.unusedVariables false
set_option linter.unusedSimpArgs false
namespace Go.Ab
variable {C : CSem} {N : Nat → Nat}

def lotRight (l : Lot) : Bool := decide (0 < l.Id) && codeRight l.Item && Window.right ⟨l.From, l.Until⟩ && decide (l.From < l.Until) && decide (0 < l.Qty) && decide (l.Qty ≤ 1073741824)
def lot_Right.Spec (C : CSem) (N : Nat → Nat) : Prop := ∀ (l : Lot) (h : AHeap) (Q : AVal → AHeap → Prop), Q (.bool (lotRight l)) h → C (N 52) [.agg l.cs] h Q
theorem lot_Right.spec (i : lot_Right.Imp C N) (s1 : code_Right.Spec C N) (s2 : window_Right.Spec C N) : lot_Right.Spec C N := by
  intro l h Q hq
  apply i
  simp +contextual -dsimp
  refine B.gdb_call (fun _ _ hq => s1 _ _ _ hq) ?_
  simp +contextual -dsimp
  refine B.gdb_call (fun _ _ hq => s2 _ _ _ _ hq) ?_
  simp +contextual -dsimp
  simp only [lotRight, Bool.and_assoc] at hq
  simp only [Bool.and_assoc]
  exact dn_same hq
/-! Numbers as bytes. -/
/-- n in so many bytes, the highest first. -/
def be (n : Int) : Nat → List UInt8
  | 0 => []
  | k + 1 => byt (n.fdiv (2 ^ (8 * k))) :: be n k
@[simp] theorem be_len (n : Int) : ∀ k, (be n k).length = k
  | 0 => rfl
  | k + 1 => by simp [be, be_len n k]
/-! Answers. -/
end Go.Ab

/- What is proved: contracts of windows' functions. No conditions. -/
set_option linter.unusedVariables false
namespace Go.Ab
variable {C : CSem} {N : Nat → Nat}

def Window.has (a : Window) (day : Int) : Bool := a.right && decide (a.From ≤ day) && decide (day < a.Until)
def window_Has.Spec (C : CSem) (N : Nat → Nat) : Prop := ∀ (a b day : Int) (h : AHeap) (Q : AVal → AHeap → Prop), Q (.bool (Window.has ⟨a, b⟩ day)) h → C (N 7) [.agg [.int .i64 a, .int .i64 b], .int .i64 day] h Q
theorem window_Has.spec (i : window_Has.Imp C N) (s1 : window_Right.Spec C N) : window_Has.Spec C N := by
  intro a b day h Q hq
  apply i
  simp +contextual -dsimp
  refine s1 _ _ _ _ ?_
  simp +contextual -dsimp
  exact dn_same hq

/-! Rows. -/
end Go.Ab

/- What is proved: stable orders, by ghost numbers. No conditions. -/
namespace Go.Ab
/-! Stable orders. -/
structure Weak {T : Type} (less : T → T → Bool) : Prop where
  asym : ∀ {a b}, less a b = true → less b a = false
  ntrans : ∀ {a b c}, less a b = false → less b c = false → less a c = false
section
variable {T : Type} {less : T → T → Bool}
theorem Weak.irr (W : Weak less) (a : T) : less a a = false := by
  cases h : less a a with
  | false => rfl
  | true => have := W.asym h; rw [h] at this; cases this
theorem Weak.trans (W : Weak less) {a b c : T} (h1 : less a b = true) (h2 : less b c = true) : less a c = true := by
  cases h : less a c with
  | true => rfl
  | false => have := W.ntrans h (W.asym h2); rw [h1] at this; cases this
/-- Ahead, or alike and of a smaller number. -/
def lt' (less : T → T → Bool) (x y : T × Nat) : Prop := less x.1 y.1 = true ∨ (less y.1 x.1 = false ∧ x.2 < y.2)
theorem lt'_trans (W : Weak less) {x y z : T × Nat} (h1 : lt' less x y) (h2 : lt' less y z) : lt' less x z := by
  unfold lt' at *
  rcases h1 with h1 | ⟨h1, n1⟩ <;> rcases h2 with h2 | ⟨h2, n2⟩
  · exact .inl (W.trans h1 h2)
  · left
    cases h : less x.1 z.1 with
    | true => rfl
    | false => have := W.ntrans h h2; rw [h1] at this; cases this
  · left
    cases h : less x.1 z.1 with
    | true => rfl
    | false => have := W.ntrans h1 h; rw [h2] at this; cases this
  · exact .inr ⟨W.ntrans h2 h1, by omega⟩
theorem lt'_asym (W : Weak less) {x y : T × Nat} (h1 : lt' less x y) (h2 : lt' less y x) : False := by
  have := lt'_trans W h1 h2
  unfold lt' at this
  rcases this with h | ⟨_, h⟩
  · rw [W.irr] at h; cases h
  · omega
theorem lt'_gt {x y : T × Nat} (hn : y.2 < x.2) : lt' less x y ↔ less x.1 y.1 = true := ⟨fun h => h.elim id fun ⟨_, h⟩ => by omega, .inl⟩
theorem lt'_le (W : Weak less) {x y : T × Nat} (hn : x.2 < y.2) : lt' less x y ↔ less y.1 x.1 = false :=
  ⟨fun h => h.elim (fun h => W.asym h) fun ⟨h, _⟩ => h, fun h => .inr ⟨h, hn⟩⟩
/-- S is L in stable order. -/
def StableSort (less : T → T → Bool) (L S : List T) : Prop := ∃ G : List (T × Nat), G.map (·.1) = S ∧ G.Perm L.zipIdx ∧ G.Pairwise (lt' less)
theorem StableSort.unique (W : Weak less) {L S S' : List T} (h : StableSort less L S) (k : StableSort less L S') : S = S' := by
  obtain ⟨G, rfl, p, s⟩ := h
  obtain ⟨H, rfl, q, t⟩ := k
  have := List.Perm.eq_of_pairwise (le := lt' less) (fun a b _ _ h1 h2 => (lt'_asym W h1 h2).elim) s t (p.trans q.symm)
  rw [this]
end
end Go.Ab

/- What is proved: elements of one's own list loaded, stored, exchanged; numbers. No conditions. -/
set_option linter.unusedVariables false
set_option linter.unusedSimpArgs false
namespace Go.Ab
variable {C : CSem} {N : Nat → Nat}

/-! Numbers. -/
theorem add64 {a b : Nat} (h : a + b < 4611686018427387904) : V.bin .add (.int .i64 (a : Int)) (.int .i64 (b : Int)) = some (.int .i64 ((a + b : Nat) : Int)) := by
  rw [V.bin_add, wrap_i64 (by omega) (by omega)]; simp
theorem add1 {a : Nat} (h : a < 4611686018427387904) : V.bin .add (.int .i64 (a : Int)) (.int .i64 1) = some (.int .i64 ((a + 1 : Nat) : Int)) := by
  rw [V.bin_add, wrap_i64 (by omega) (by omega)]; simp
theorem sub64 {a b : Nat} (h : b ≤ a) (ha : a < 4611686018427387904) : V.bin .sub (.int .i64 (a : Int)) (.int .i64 (b : Int)) = some (.int .i64 ((a - b : Nat) : Int)) := by
  rw [V.bin_sub, wrap_i64 (by omega) (by omega)]; congr 2; omega
theorem sub1 {a : Nat} (h : 1 ≤ a) (ha : a < 4611686018427387904) : V.bin .sub (.int .i64 (a : Int)) (.int .i64 1) = some (.int .i64 ((a - 1 : Nat) : Int)) := by
  rw [V.bin_sub, wrap_i64 (by omega) (by omega)]; congr 2; omega
theorem lssN {a b : Nat} : V.bin .lss (.int .i64 (a : Int)) (.int .i64 (b : Int)) = some (.bool (decide (a < b))) := by rw [V.bin_lss]; congr 3; exact propext (by omega)
theorem leqN {a b : Nat} : V.bin .leq (.int .i64 (a : Int)) (.int .i64 (b : Int)) = some (.bool (decide (a ≤ b))) := by rw [V.bin_leq]; congr 3; exact propext (by omega)
theorem gtrN {a b : Nat} : V.bin .gtr (.int .i64 (a : Int)) (.int .i64 (b : Int)) = some (.bool (decide (b < a))) := by rw [V.bin_gtr]; congr 3; exact propext (by omega)
theorem neqN {a b : Nat} : V.bin .neq (.int .i64 (a : Int)) (.int .i64 (b : Int)) = some (.bool (!decide (a = b))) := by rw [V.bin_neq]; congr 4; exact propext (by omega)
theorem eql1 {a : Nat} : V.bin .eql (.int .i64 (a : Int)) (.int .i64 1) = some (.bool (decide (a = 1))) := by rw [V.bin_eql]; congr 3; exact propext (by omega)

/-- What is asked of the elements of a list: their cells, how they are loaded and stored. -/
structure SeqSpec (E : ElOps) {X : Type} (cs : X → List AVal) (v : X → AVal) : Prop where
  pos : 0 < E.es
  small : E.bytes ≤ 1000
  zlen : E.z.length = E.es
  len : ∀ t, (cs t).length = E.es
  new : ∀ t, fillL [(0, E.kp, v t)] (repL 1 E.z) = some (cs t)
  ld : ∀ {h : AHeap} {x : AVal} {L R : List (List AVal)} {i : Nat} {t : X} {K : AVal → Prop}, SlX h E.es x L R → L[i]? = some (cs t) → K (v t) → E.ld h (elp E.es x i 0) K
  kpt : ∀ {h : AHeap} {x : AVal} {L R : List (List AVal)} {i : Nat} {t : X}, SlX h E.es x L R → L[i]? = some (cs t) → Kp h (elp E.es x i 0) E.kp
  st : ∀ {h0 h : AHeap} {x : AVal} {L R : List (List AVal)} {i : Nat} {c : List AVal} {t : X} {K : AHeap → Prop}, Owns h0 h [.sl E.es x L R] → L[i]? = some c →
    (∀ h', Owns h0 h' [.sl E.es x (L.set i (cs t)) R] → K h') → E.st h (elp E.es x i 0) (v t) K
theorem SeqSpec.comp {E : ElOps} {X Y : Type} {cs : X → List AVal} {v : X → AVal} (S : SeqSpec E cs v) (f : Y → X) : SeqSpec E (fun y => cs (f y)) (fun y => v (f y)) :=
  ⟨S.pos, S.small, S.zlen, fun t => S.len _, fun t => S.new _, fun h1 h2 h3 => S.ld h1 h2 h3, fun h1 h2 => S.kpt h1 h2, fun h1 h2 h3 => S.st h1 h2 h3⟩
theorem seqF {X : Type} {es bytes f : Nat} {z : List AVal} {sh : List Ck} {cs : X → List AVal} (hp : 0 < es) (hb : bytes ≤ 1000) (hz : z.length = es) (hl : ∀ t, (cs t).length = es) : SeqSpec (opsF es bytes z f sh) cs (fun t => .agg (cs t)) where
  pos := hp
  small := hb
  zlen := hz
  len := hl
  new t := by
    have hrep : repL 1 z = z := by unfold repL; split <;> simp
    have h1 := hl t
    show fillL [(0, some es, AVal.agg (cs t))] (repL 1 z) = _
    rw [hrep]
    simp [h1, hz]
  ld hs hc hk := by
    simp only [opsF, B.ldn_eq] at hs ⊢
    rw [hs.elem hc]; exact hk
  kpt hs hc := ⟨_, hs.elem hc⟩
  st ho hc hk := ho.stElem 0 rfl hc (hl _) fun h' h1 _ => hk h' h1
/-- A list of one's own, element by element. -/
def Rw (E : ElOps) {X : Type} (cs : X → List AVal) (h0 h : AHeap) (x : AVal) (G : List X) (R : List (List AVal)) : Prop := Owns h0 h [.sl E.es x (G.map cs) R]
section
variable {E : ElOps} {X : Type} {cs : X → List AVal} {v : X → AVal} {h0 h : AHeap} {x : AVal} {G : List X} {R : List (List AVal)}
theorem Rw.idx (ho : Rw E cs h0 h x G R) {i : Nat} (hi : i < G.length) : V.idxS E.es x (.int .i64 (i : Int)) = some (elp E.es x i 0) := (Owns.slAt ho 0 rfl).idxN (by simpa using hi)
theorem Rw.lenE (ho : Rw E cs h0 h x G R) : V.lenSl x = some (.int .i64 G.length) := by have := (Owns.slAt ho 0 rfl).lenSl; simpa using this
theorem Rw.le (ho : Rw E cs h0 h x G R) : h0.le h := Owns.le ho
theorem Rw.ld (ho : Rw E cs h0 h x G R) (S : SeqSpec E cs v) {i : Nat} {t : X} (hg : G[i]? = some t) {K : AVal → Prop} (hk : K (v t)) : E.ld h (elp E.es x i 0) K :=
  S.ld (Owns.slAt ho 0 rfl) (by rw [List.getElem?_map, hg]; rfl) hk
theorem Rw.st (ho : Rw E cs h0 h x G R) (S : SeqSpec E cs v) {i : Nat} {t : X} (hi : i < G.length) {K : AHeap → Prop} (hk : ∀ h', Rw E cs h0 h' x (G.set i t) R → K h') : E.st h (elp E.es x i 0) (v t) K :=
  S.st ho (c := cs G[i]) (by rw [List.getElem?_map, List.getElem?_eq_getElem hi]; rfl) fun h' h1 => hk h' (by unfold Rw; rwa [List.map_set])
theorem set_mid {P Q : List X} {a b : X} {i : Nat} (hi : i = P.length) : (P ++ a :: Q).set i b = P ++ b :: Q := by subst hi; simp
theorem get_mid {P Q : List X} {a : X} {i : Nat} (hi : i = P.length) : (P ++ a :: Q)[i]? = some a := by subst hi; simp
theorem set_mid2 {P Q T : List X} {a b c : X} {j : Nat} (hj : j = P.length + 1 + Q.length) : (P ++ a :: (Q ++ b :: T)).set j c = P ++ a :: (Q ++ c :: T) := by
  have := set_mid (P := P ++ a :: Q) (Q := T) (a := b) (b := c) (i := j) (by simp; omega)
  simpa using this
theorem get_mid2 {P Q T : List X} {a b : X} {j : Nat} (hj : j = P.length + 1 + Q.length) : (P ++ a :: (Q ++ b :: T))[j]? = some b := by
  have := get_mid (P := P ++ a :: Q) (Q := T) (a := b) (i := j) (by simp; omega)
  simpa using this
theorem Rw.swapUp {P Q T : List X} {a b : X} {i j : Nat} (ho : Rw E cs h0 h x (P ++ a :: (Q ++ b :: T)) R) (S : SeqSpec E cs v) (hi : i = P.length) (hj : j = P.length + 1 + Q.length) {K : AHeap → Prop}
    (hk : ∀ h', Rw E cs h0 h' x (P ++ b :: (Q ++ a :: T)) R → K h') : E.st h (elp E.es x i 0) (v b) fun h => E.st h (elp E.es x j 0) (v a) K := by
  refine ho.st S (by simp; omega) fun h1 o1 => ?_
  rw [set_mid hi] at o1
  refine o1.st S (by simp; omega) fun h2 o2 => hk h2 ?_
  rwa [set_mid2 hj] at o2
theorem Rw.swapDn {P Q T : List X} {a b : X} {i j : Nat} (ho : Rw E cs h0 h x (P ++ a :: (Q ++ b :: T)) R) (S : SeqSpec E cs v) (hi : i = P.length) (hj : j = P.length + 1 + Q.length) {K : AHeap → Prop}
    (hk : ∀ h', Rw E cs h0 h' x (P ++ b :: (Q ++ a :: T)) R → K h') : E.st h (elp E.es x j 0) (v a) fun h => E.st h (elp E.es x i 0) (v b) K := by
  refine ho.st S (by simp; omega) fun h1 o1 => ?_
  rw [set_mid2 hj] at o1
  refine o1.st S (by simp; omega) fun h2 o2 => hk h2 ?_
  rwa [set_mid hi] at o2
end

/-- A comparison that leaves the memory. -/
structure CmpSpec (C : CSem) {X : Type} (v : X → AVal) (c : X → X → Int) (f : AVal) (h0 : AHeap) : Prop where
  call : ∀ (h : AHeap) (a b : X) (K : AVal → AHeap → Prop), h0.le h → K (.int .i64 (c a b)) h → B.callv h C f [v a, v b] K

section
variable {E : ElOps} {T : Type} {cs : T → List AVal} {v : T → AVal} {c : T → T → Int} {h0 h : AHeap} {x f : AVal} {R : List (List AVal)} {Q : AVal → AHeap → Prop}
/-- Ahead, by a comparison's answer. -/
def lessC (c : T → T → Int) (a b : T) : Bool := decide (c a b < 0)

theorem nil_or_snoc {X : Type} (L : List X) : L = [] ∨ ∃ L0 y, L = L0 ++ [y] := by
  rcases List.eq_nil_or_concat L with h | ⟨A, b, h⟩
  · exact .inl h
  · exact .inr ⟨A, b, by rw [h, List.concat_eq_append]⟩
/-- Insertion sort, stable. -/
theorem insertionSort_spec (S : SeqSpec E cs v) (W : Weak (lessC c)) {P M U : List (T × Nat)} (hlen : (P ++ (M ++ U)).length ≤ 100000000) (ht : M.Pairwise fun a b => a.2 < b.2)
    (hc : CmpSpec C v c f h0) {a b : Nat} (ha : a = P.length) (hb : b = P.length + M.length) (ho : Rw E (fun p : T × Nat => cs p.1) h0 h x (P ++ (M ++ U)) R)
    (hq : ∀ h' M', M'.Perm M → M'.Pairwise (lt' (lessC c)) → Rw E (fun p : T × Nat => cs p.1) h0 h' x (P ++ (M' ++ U)) R → Q (.tup []) h') :
    slices_insertionSortCmpFuncG.cps C E x (.int .i64 (a : Int)) (.int .i64 (b : Int)) f h Q := by
  have S' := S.comp (fun p : T × Nat => p.1)
  subst ha
  have hlen' : P.length + M.length + U.length ≤ 100000000 := by simpa [Nat.add_assoc] using hlen
  simp -dsimp only [slices_insertionSortCmpFuncG.cps, add1 (show P.length < 4611686018427387904 by omega), B.pv_some]
  cases M with
  | nil =>
    intro Y hY
    refine hY _ _ ?_
    simp -dsimp only [slices_insertionSortCmpFuncG.l3, lssN, B.pv_some]
    rw [show decide (P.length + 1 < b) = false by simp at hb ⊢; omega, B.cond_false]
    exact hq h [] (List.Perm.refl _) .nil ho
  | cons m M1 =>
  simp only [List.length_cons] at hlen' hb
  rw [List.pairwise_cons] at ht
  refine LoopR.intro (fun t vs hh => ∃ (i : Nat) (L M2 : List (T × Nat)), t = M2.length ∧ vs = [.int .i64 i] ∧ i = P.length + L.length ∧ i + M2.length = b ∧ Rw E (fun p : T × Nat => cs p.1) h0 hh x (P ++ (L ++ (M2 ++ U))) R ∧
    (L ++ M2).Perm (m :: M1) ∧ L.Pairwise (lt' (lessC c)) ∧ M2.Pairwise (fun a b => a.2 < b.2) ∧ ∀ p ∈ L, ∀ q ∈ M2, p.2 < q.2) M1.length ?_
    ⟨P.length + 1, [m], M1, rfl, rfl, by simp, by omega, by simpa using ho, List.Perm.refl _, List.pairwise_singleton .., ht.2, by simpa using ht.1⟩
  rintro Y t vs hh ⟨i, L, M2, rfl, rfl, hi, hib, o, hp, hs, ht2, htt⟩ hY
  simp -dsimp only [slices_insertionSortCmpFuncG.l3, lssN, B.pv_some]
  cases M2 with
  | nil =>
    rw [show decide (i < b) = false by simp at hib ⊢; omega, B.cond_false]
    rw [List.append_nil] at hp
    exact hq hh L hp hs o
  | cons x0 M2 =>
    simp only [List.length_cons] at hib
    rw [show decide (i < b) = true by simp; omega, B.cond_true]
    rw [List.pairwise_cons] at ht2
    have hll : P.length + (L.length + (M2.length + 1)) = b := by omega
    refine LoopR.intro (fun t vs h2 => ∃ (L1 L2 : List (T × Nat)), t = L1.length ∧ vs = [.int .i64 ((P.length + L1.length : Nat) : Int)] ∧ L = L1 ++ L2 ∧ Rw E (fun p : T × Nat => cs p.1) h0 h2 x (P ++ (L1 ++ x0 :: (L2 ++ (M2 ++ U)))) R ∧
      ∀ q ∈ L2, lt' (lessC c) x0 q) L.length ?_ ⟨L, [], rfl, by rw [hi], by simp, by simpa using o, by simp⟩
    rintro Z t vs h2 ⟨L1, L2, rfl, rfl, rfl, o2, hx⟩ hZ
    rw [List.pairwise_append] at hs
    have fin : (L1 = [] ∨ ∃ L0 y, L1 = L0 ++ [y] ∧ lt' (lessC c) y x0) → Y [.int .i64 ((i + 1 : Nat) : Int)] h2 := fun hz => by
      have hlow : ∀ p ∈ L1, lt' (lessC c) p x0 := by
        rcases hz with rfl | ⟨L0, y, rfl, hy⟩
        · simp
        · intro p hpm
          rcases List.mem_append.1 hpm with h1 | h1
          · exact lt'_trans W ((List.pairwise_append.1 hs.1).2.2 p h1 y (by simp)) hy
          · rw [List.mem_singleton.1 h1]; exact hy
      refine hY M2.length _ _ (by simp) ⟨i + 1, L1 ++ x0 :: L2, M2, rfl, rfl, by simp at hi ⊢; omega, by omega, by simpa using o2, ?_, ?_, ht2.2, ?_⟩
      · refine List.Perm.trans ?_ hp
        simp only [List.append_assoc, List.cons_append]
        refine List.Perm.append_left _ ?_
        exact (List.perm_middle (l₁ := L2) (l₂ := M2) (a := x0)).symm
      · rw [List.pairwise_append, List.pairwise_cons]
        refine ⟨hs.1, ⟨hx, hs.2.1⟩, fun p h1 q h2 => ?_⟩
        rcases List.mem_cons.1 h2 with rfl | h2
        · exact hlow p h1
        · exact hs.2.2 p h1 q h2
      · intro p h1 q h2
        rcases List.mem_append.1 h1 with h1 | h1
        · exact htt p (List.mem_append_left _ h1) q (List.mem_cons_of_mem _ h2)
        · rcases List.mem_cons.1 h1 with rfl | h1
          · exact ht2.1 q h2
          · exact htt p (List.mem_append_right _ h1) q (List.mem_cons_of_mem _ h2)
    have hll2 : i = P.length + (L1.length + L2.length) := by simpa using hi
    simp -dsimp only [slices_insertionSortCmpFuncG.l2, slices_insertionSortCmpFuncG.k1, gtrN, B.pv_some]
    obtain rfl | ⟨L0, y, rfl⟩ := nil_or_snoc L1
    · simp -dsimp [add1 (show i < 4611686018427387904 by omega)]
      exact fin (.inl rfl)
    · have hyx : y.2 < x0.2 := htt y (by simp) x0 (by simp)
      have o2' := o2
      simp only [List.append_assoc, List.cons_append, List.nil_append] at o2'
      simp only [List.length_append, List.length_singleton] at hll2 hlen' hll
      have hj : P.length + (L0 ++ [y]).length = P.length + L0.length + 1 := by simp [Nat.add_assoc]
      rw [show decide (P.length < P.length + (L0 ++ [y]).length) = true by simp]
      rw [hj]
      simp -dsimp only [B.gd_t, B.gdb_pure, B.gdb_true, gv_true, sub1 (show 1 ≤ P.length + L0.length + 1 by omega) (by omega), Nat.add_sub_cancel, o2.idx (i := P.length + L0.length + 1) (by simp; omega), o2.idx (i := P.length + L0.length) (by simp), B.pv_some]
      have o3 : Rw E (fun p : T × Nat => cs p.1) h0 h2 x ((P ++ L0) ++ y :: ([] ++ x0 :: (L2 ++ (M2 ++ U)))) R := by simpa using o2
      have gy : ((P ++ L0) ++ y :: ([] ++ x0 :: (L2 ++ (M2 ++ U))))[P.length + L0.length]? = some y := get_mid (by simp)
      have gx : ((P ++ L0) ++ y :: ([] ++ x0 :: (L2 ++ (M2 ++ U))))[P.length + L0.length + 1]? = some x0 := get_mid2 (by simp)
      refine o3.ld S' gx ?_
      refine o3.ld S' gy ?_
      refine hc.call _ _ _ _ o2.le ?_
      simp -dsimp only [B.gd_t, B.gdb_pure, B.gdb_true, gv_true, V.bin_lss, B.pv_some, B.pick_t]
      refine B.cond_bool (fun hb2 => ?_) (fun hb2 => ?_)
      · simp -dsimp only [sub1 (show 1 ≤ P.length + L0.length + 1 by omega) (by omega), Nat.add_sub_cancel, o2.idx (i := P.length + L0.length + 1) (by simp; omega), o2.idx (i := P.length + L0.length) (by simp), B.pv_some]
        refine o3.ld S' gy ?_
        refine o3.ld S' gx ?_
        refine o3.swapDn S' (by simp) (by simp) fun h4 o4 => ?_
        refine hZ L0.length _ _ (by simp) ⟨L0, y :: L2, rfl, rfl, by simp, by simpa using o4, ?_⟩
        intro q hq2
        rcases List.mem_cons.1 hq2 with rfl | hq2
        · exact (lt'_gt hyx).2 hb2
        · exact hx q hq2
      · simp -dsimp only [add1 (show i < 4611686018427387904 by omega), B.pv_some]
        exact fin (.inr ⟨L0, y, rfl, (lt'_le W hyx).2 hb2⟩)
end
end Go.Ab

/- What is proved: two parts of one's own list exchanged; a list turned about a place. No conditions. -/
set_option linter.unusedVariables false
set_option linter.unusedSimpArgs false
namespace Go.Ab
variable {C : CSem} {N : Nat → Nat}
section
variable {E : ElOps} {X : Type} {cs : X → List AVal} {v : X → AVal} {h0 h : AHeap} {x f : AVal} {R : List (List AVal)} {Q : AVal → AHeap → Prop}

theorem swapRange_spec (S : SeqSpec E cs v) {P A M D U : List X} (hn : A.length = D.length) (hlen : (P ++ (A ++ (M ++ (D ++ U)))).length ≤ 100000000) {a b n : Nat} (ha : a = P.length) (hb : b = P.length + A.length + M.length) (hna : n = A.length)
    (ho : Rw E cs h0 h x (P ++ (A ++ (M ++ (D ++ U)))) R)
    (hq : ∀ h', Rw E cs h0 h' x (P ++ (D ++ (M ++ (A ++ U)))) R → Q (.tup []) h') :
    slices_swapRangeCmpFuncG.cps C E x (.int .i64 (a : Int)) (.int .i64 (b : Int)) (.int .i64 (n : Int)) f h Q := by
  simp only [List.length_append] at hlen
  refine LoopR.intro (fun t vs hh => ∃ (A1 A2 D1 D2 : List X), t = A2.length ∧ vs = [.int .i64 (A1.length : Int)] ∧ A = A1 ++ A2 ∧ D = D1 ++ D2 ∧ A1.length = D1.length ∧ Rw E cs h0 hh x (P ++ (D1 ++ (A2 ++ (M ++ (A1 ++ (D2 ++ U)))))) R) A.length ?_
    ⟨[], A, [], D, rfl, rfl, rfl, rfl, rfl, by simpa using ho⟩
  rintro Y t vs hh ⟨A1, A2, D1, D2, rfl, rfl, rfl, rfl, hl, o⟩ hY
  simp only [List.length_append] at hn hlen hb hna
  simp -dsimp only [slices_swapRangeCmpFuncG.l2, slices_swapRangeCmpFuncG.k1, lssN, B.pv_some]
  cases A2 with
  | nil =>
    have : D2 = [] := List.eq_nil_of_length_eq_zero (by simp at hn; omega)
    subst this
    rw [show decide (A1.length < n) = false by simp at hna ⊢; omega, B.cond_false]
    exact hq hh (by simpa using o)
  | cons p A2 =>
    cases D2 with
    | nil => simp at hn; omega
    | cons q D2 =>
      simp only [List.length_cons] at hn hlen hb hna
      rw [show decide (A1.length < n) = true by simp; omega, B.cond_true]
      have o3 : Rw E cs h0 hh x ((P ++ D1) ++ p :: ((A2 ++ (M ++ A1)) ++ q :: (D2 ++ U))) R := by simpa using o
      have i1 : a + A1.length = (P ++ D1).length := by simp; omega
      have i2 : b + A1.length = (P ++ D1).length + 1 + (A2 ++ (M ++ A1)).length := by simp; omega
      simp -dsimp only [add64 (a := a) (b := A1.length) (by omega), add64 (a := b) (b := A1.length) (by omega), o3.idx (i := a + A1.length) (by simp; omega), o3.idx (i := b + A1.length) (by simp; omega), B.pv_some]
      refine o3.ld S (get_mid2 i2) ?_
      refine o3.ld S (get_mid i1) ?_
      refine o3.swapUp S i1 i2 fun h4 o4 => ?_
      simp -dsimp only [add1 (a := A1.length) (by omega), B.pv_some]
      exact hY A2.length _ _ (by simp) ⟨A1 ++ [p], A2, D1 ++ [q], D2, rfl, by simp, by simp, by simp, by simp [hl], by simpa using o4⟩

theorem rotate_spec (S : SeqSpec E cs v) {f1 : Nat} (s1 : ∀ (x v1 v2 v3 f : AVal) (h : AHeap) (Q : AVal → AHeap → Prop), slices_swapRangeCmpFuncG.cps C E x v1 v2 v3 f h (dn Q) → C f1 [x, v1, v2, v3, f] h Q)
    {P A D U : List X} (hA : A ≠ []) (hD : D ≠ []) (hlen : (P ++ (A ++ (D ++ U))).length ≤ 100000000) {a m b : Nat} (ha : a = P.length) (hm : m = P.length + A.length) (hb : b = P.length + A.length + D.length)
    (ho : Rw E cs h0 h x (P ++ (A ++ (D ++ U))) R) (hq : ∀ h', Rw E cs h0 h' x (P ++ (D ++ (A ++ U))) R → Q (.tup []) h') :
    slices_rotateCmpFuncG.cps C E f1 x (.int .i64 (a : Int)) (.int .i64 (m : Int)) (.int .i64 (b : Int)) f h Q := by
  simp only [List.length_append] at hlen
  simp -dsimp only [slices_rotateCmpFuncG.cps, sub64 (a := m) (b := a) (by omega) (by omega), sub64 (a := b) (b := m) (by omega) (by omega), B.pv_some]
  refine LoopR.intro (fun t vs hh => ∃ (P' A' D' U' : List X), t = A'.length + D'.length ∧ vs = [.int .i64 (A'.length : Int), .int .i64 (D'.length : Int)] ∧ A' ≠ [] ∧ D' ≠ [] ∧ P'.length + A'.length = m ∧ m + D'.length + U'.length ≤ 100000000 ∧ P' ++ (D' ++ (A' ++ U')) = P ++ (D ++ (A ++ U)) ∧
    Rw E cs h0 hh x (P' ++ (A' ++ (D' ++ U'))) R) (A.length + D.length) ?_ ⟨P, A, D, U, rfl, by rw [show m - a = A.length by omega, show b - m = D.length by omega], hA, hD, hm.symm, by omega, rfl, ho⟩
  rintro Y t vs hh ⟨P', A', D', U', rfl, rfl, hA', hD', hm', hU', he, o⟩ hY
  have ka := List.length_pos_iff.2 hA'
  have kd := List.length_pos_iff.2 hD'
  simp -dsimp only [slices_rotateCmpFuncG.l2, slices_rotateCmpFuncG.k1, neqN, gtrN, B.pv_some]
  refine B.cond_bool (fun h1 => ?_) (fun h1 => ?_)
  · simp only [Bool.not_eq_true', decide_eq_false_iff_not] at h1
    simp -dsimp only [gtrN, B.pv_some]
    refine B.cond_bool (fun h2 => ?_) (fun h2 => ?_)
    · simp only [decide_eq_true_eq] at h2
      simp -dsimp only [sub64 (a := m) (b := A'.length) (by omega) (by omega), B.pv_some]
      have t1 : (A'.take D'.length).length = D'.length := by simp; omega
      have o2 : Rw E cs h0 hh x (P' ++ (A'.take D'.length ++ (A'.drop D'.length ++ (D' ++ U')))) R := by rw [← List.append_assoc (A'.take _), List.take_append_drop]; exact o
      refine s1 _ _ _ _ _ _ _ (swapRange_spec S t1 (by simp; omega) (by omega) (by simp; omega) t1.symm o2 fun h3 o3 => dn_same ?_)
      simp -dsimp only [sub64 (a := A'.length) (b := D'.length) (by omega) (by omega), B.pv_some]
      refine hY _ _ _ ?_ ⟨P' ++ D', A'.drop D'.length, A'.take D'.length, U', rfl, ?_, ?_, ?_, ?_, ?_, ?_, by simpa using o3⟩
      · simp; omega
      · rw [t1]; simp
      · intro e; simp at e; omega
      · intro e; rw [e] at t1; simp at t1; omega
      · simp; omega
      · rw [t1]; omega
      · rw [← he]; simp only [List.append_assoc]; rw [← List.append_assoc (A'.take _), List.take_append_drop]
    · simp only [decide_eq_false_iff_not] at h2
      simp -dsimp only [sub64 (a := m) (b := A'.length) (by omega) (by omega), add64 (a := m) (b := D'.length) (by omega), sub64 (a := m + D'.length) (b := A'.length) (by omega) (by omega), B.pv_some]
      have t1 : (D'.drop (D'.length - A'.length)).length = A'.length := by simp; omega
      have t2 : (D'.take (D'.length - A'.length)).length = D'.length - A'.length := by simp
      have o2 : Rw E cs h0 hh x (P' ++ (A' ++ (D'.take (D'.length - A'.length) ++ (D'.drop (D'.length - A'.length) ++ U')))) R := by rw [← List.append_assoc (D'.take _), List.take_append_drop]; exact o
      refine s1 _ _ _ _ _ _ _ (swapRange_spec S t1.symm (by simp only [List.length_append, t1, t2]; omega) (by omega) (by rw [t2]; omega) rfl o2 fun h3 o3 => dn_same ?_)
      simp -dsimp only [sub64 (a := D'.length) (b := A'.length) (by omega) (by omega), B.pv_some]
      refine hY _ _ _ ?_ ⟨P', D'.drop (D'.length - A'.length), D'.take (D'.length - A'.length), A' ++ U', rfl, ?_, ?_, ?_, ?_, ?_, ?_, o3⟩
      · rw [t1, t2]; omega
      · rw [t1, t2]
      · intro e; rw [e] at t1; simp at t1; omega
      · intro e; rw [e] at t2; simp at t2; omega
      · rw [t1]; omega
      · rw [t2]; simp; omega
      · rw [← he]; rw [← List.append_assoc (D'.take _), List.take_append_drop]
  · simp only [Bool.not_eq_false', decide_eq_true_eq] at h1
    simp -dsimp only [sub64 (a := m) (b := A'.length) (by omega) (by omega), B.pv_some]
    refine s1 _ _ _ _ _ _ _ (swapRange_spec S (P := P') (M := []) h1 (by simp only [List.length_append, List.length_nil]; omega) (by omega) (by simp; omega) rfl (U := U') (by simpa using o) fun h3 o3 => dn_same ?_)
    exact hq h3 (by rw [← he]; simpa using o3)
end
end Go.Ab

/- What is proved: two sorted parts merged in place, stable: where one of them is a single element. No conditions. -/
set_option linter.unusedVariables false
set_option linter.unusedSimpArgs false
namespace Go.Ab
variable {C : CSem} {N : Nat → Nat}
theorem toU64 {a : Nat} (h : a < 4611686018427387904) : V.toInt .u64 (.int .i64 (a : Int)) = some (.int .u64 (a : Int)) := by
  rw [V.toInt_int]; congr 2
  simp only [IntKind.wrap, IntKind.bits, IntKind.signed]; simp; omega
theorem shr1 {a : Nat} : V.bin .shr (.int .u64 (a : Int)) (.int .u64 1) = some (.int .u64 ((a / 2 : Nat) : Int)) := by
  simp only [V.bin, V.shift]
  rw [if_neg (by omega), Nat.min_eq_left (by simp [IntKind.bits])]
  congr 2
  rw [Int.fdiv_eq_ediv_of_nonneg _ (by simp)]; simp
theorem toI64 {a : Nat} (h : a < 4611686018427387904) : V.toInt .i64 (.int .u64 (a : Int)) = some (.int .i64 (a : Int)) := by
  rw [V.toInt_int, wrap_i64 (by omega) (by omega)]
section
variable {E : ElOps} {T : Type} {cs : T → List AVal} {v : T → AVal} {c : T → T → Int} {h0 h : AHeap} {x f : AVal} {R : List (List AVal)} {Q : AVal → AHeap → Prop}

/-- An element split off the middle. -/
theorem split_at {X : Type} {L : List X} {k : Nat} (h : k < L.length) : ∃ L1 z L2, L = L1 ++ z :: L2 ∧ L1.length = k :=
  ⟨L.take k, L[k], L.drop (k + 1), by rw [← List.drop_eq_getElem_cons h, List.take_append_drop], by simp; omega⟩

/-- One element on the left. -/
theorem symMergeL_spec (S : SeqSpec E cs v) (W : Weak (lessC c)) {f1 f2 : Nat} {P D U : List (T × Nat)} {y : T × Nat} (hlen : (P ++ y :: (D ++ U)).length ≤ 100000000) (hs : D.Pairwise (lt' (lessC c))) (ht : ∀ q ∈ D, y.2 < q.2)
    (hc : CmpSpec C v c f h0) {a m b : Nat} (ha : a = P.length) (hm : m = P.length + 1) (hb : b = P.length + 1 + D.length) (ho : Rw E (fun p : T × Nat => cs p.1) h0 h x (P ++ y :: (D ++ U)) R)
    (hq : ∀ h' M', M'.Perm (y :: D) → M'.Pairwise (lt' (lessC c)) → Rw E (fun p : T × Nat => cs p.1) h0 h' x (P ++ (M' ++ U)) R → Q (.tup []) h') :
    slices_symMergeCmpFuncG.cps C E f1 f2 x (.int .i64 (a : Int)) (.int .i64 (m : Int)) (.int .i64 (b : Int)) f h Q := by
  have S' := S.comp (fun p : T × Nat => p.1)
  subst ha
  have hlen' : P.length + 1 + D.length + U.length ≤ 100000000 := by simp at hlen; omega
  simp -dsimp only [slices_symMergeCmpFuncG.cps, slices_symMergeCmpFuncG.k17, sub64 (a := m) (b := P.length) (by omega) (by omega), show m - P.length = 1 by omega, eql1, B.pv_some]
  simp -dsimp only [Int.natCast_one, V.bin_eql, B.pv_some, decide_true, B.cond_true]
  refine LoopR.intro (fun t vs hh => hh = h ∧ ∃ (D1 D2 D3 : List (T × Nat)), t = D2.length ∧ vs = [.int .i64 ((m + D1.length : Nat) : Int), .int .i64 ((m + D1.length + D2.length : Nat) : Int)] ∧ D = D1 ++ (D2 ++ D3) ∧ (∀ q ∈ D1, lt' (lessC c) q y) ∧ ∀ q ∈ D3, lt' (lessC c) y q) D.length ?_
    ⟨rfl, [], D, [], rfl, by simp; omega, by simp, by simp, by simp⟩
  rintro Y t vs hh ⟨rfl, D1, D2, D3, rfl, rfl, rfl, h1, h3⟩ hY
  simp only [List.length_append] at hlen' hb
  simp -dsimp only [slices_symMergeCmpFuncG.l16, slices_symMergeCmpFuncG.k15, lssN, B.pv_some]
  refine B.cond_bool (fun hk => ?_) (fun hk => ?_)
  · simp only [decide_eq_true_eq] at hk
    have hmid : (m + D1.length + (m + D1.length + D2.length)) / 2 = m + D1.length + D2.length / 2 := by omega
    simp -dsimp only [add64 (a := m + D1.length) (b := m + D1.length + D2.length) (by omega), toU64 (a := m + D1.length + (m + D1.length + D2.length)) (by omega), shr1, hmid, toI64 (a := m + D1.length + D2.length / 2) (by omega), B.pv_some]
    obtain ⟨E1, z, E2, rfl, hE⟩ := split_at (L := D2) (k := D2.length / 2) (by omega)
    rw [← hE]
    simp only [List.length_append, List.length_cons] at hlen' hb hk
    have g1 : (P ++ y :: (D1 ++ (E1 ++ z :: E2 ++ D3) ++ U))[m + D1.length + E1.length]? = some z := by
      have := get_mid (P := P ++ y :: (D1 ++ E1)) (Q := E2 ++ D3 ++ U) (a := z) (i := m + D1.length + E1.length) (by simp; omega)
      simpa using this
    have g2 : (P ++ y :: (D1 ++ (E1 ++ z :: E2 ++ D3) ++ U))[P.length]? = some y := get_mid rfl
    simp -dsimp only [ho.idx (i := m + D1.length + E1.length) (by simp; omega), ho.idx (i := P.length) (by simp), B.pv_some]
    refine ho.ld S' g1 ?_
    refine ho.ld S' g2 ?_
    refine hc.call _ _ _ _ ho.le ?_
    simp -dsimp only [V.bin_lss, B.pv_some]
    have hzy : y.2 < z.2 := ht z (by simp)
    have hs' := hs
    simp only [List.pairwise_append, List.pairwise_cons, List.mem_append, List.mem_cons] at hs'
    refine B.cond_bool (fun hl => ?_) (fun hl => ?_)
    · have lz : lt' (lessC c) z y := (lt'_gt hzy).2 hl
      simp -dsimp only [add1 (a := m + D1.length + E1.length) (by omega), B.pv_some]
      refine hY E2.length _ _ (by simp; omega) ⟨rfl, D1 ++ E1 ++ [z], E2, D3, rfl, by simp; omega, by simp, ?_, h3⟩
      intro q hq
      simp only [List.mem_append, List.mem_singleton] at hq
      rcases hq with (hq | hq) | rfl
      · exact h1 q hq
      · exact lt'_trans W (hs'.2.1.1.2.2 q hq z (.inl rfl)) lz
      · exact lz
    · have lz : lt' (lessC c) y z := (lt'_le W hzy).2 hl
      refine hY E1.length _ _ (by simp) ⟨rfl, D1, E1, z :: E2 ++ D3, rfl, rfl, by simp, h1, ?_⟩
      intro q hq
      simp only [List.cons_append, List.mem_cons, List.mem_append] at hq
      rcases hq with rfl | hq | hq
      · exact lz
      · exact lt'_trans W lz (hs'.2.1.1.2.1.1 q hq)
      · exact h3 q hq
  · simp only [decide_eq_false_iff_not] at hk
    have e : D2 = [] := List.eq_nil_of_length_eq_zero (by omega)
    subst e
    simp only [List.length_nil, List.nil_append, Nat.add_zero] at hlen' hb hs hq ho
    refine LoopR.intro (fun t vs hh => ∃ (B1 B2 : List (T × Nat)), t = B2.length ∧ vs = [.int .i64 ((P.length + B1.length : Nat) : Int)] ∧ D1 = B1 ++ B2 ∧ Rw E (fun p : T × Nat => cs p.1) h0 hh x (P ++ (B1 ++ y :: (B2 ++ (D3 ++ U)))) R) D1.length ?_
      ⟨[], D1, rfl, by simp, rfl, by simpa using ho⟩
    rintro Z t vs h2 ⟨B1, B2, rfl, rfl, rfl, o2⟩ hZ
    simp only [List.length_append] at hlen' hb
    simp -dsimp only [slices_symMergeCmpFuncG.l14, slices_symMergeCmpFuncG.k13, List.length_append, sub1 (a := m + (B1.length + B2.length)) (by omega) (by omega), lssN, B.pv_some]
    cases B2 with
    | nil =>
      rw [show decide (P.length + B1.length < m + (B1.length + ([] : List (T × Nat)).length) - 1) = false by simp; omega, B.cond_false]
      refine hq h2 (B1 ++ y :: D3) ?_ ?_ (by simpa using o2)
      · simp
      · simp only [List.append_nil] at hs h1
        rw [List.pairwise_append] at hs ⊢
        rw [List.pairwise_cons]
        refine ⟨hs.1, ⟨h3, hs.2.1⟩, fun p hp q hq2 => ?_⟩
        rcases List.mem_cons.1 hq2 with rfl | hq2
        · exact h1 p hp
        · exact hs.2.2 p hp q hq2
    | cons z B2 =>
      simp only [List.length_cons] at hlen' hb ⊢
      rw [show decide (P.length + B1.length < m + (B1.length + (B2.length + 1)) - 1) = true by simp; omega, B.cond_true]
      have o3 : Rw E (fun p : T × Nat => cs p.1) h0 h2 x ((P ++ B1) ++ y :: ([] ++ z :: (B2 ++ (D3 ++ U)))) R := by simpa using o2
      have i1 : P.length + B1.length = (P ++ B1).length := by simp
      have i2 : P.length + B1.length + 1 = (P ++ B1).length + 1 + ([] : List (T × Nat)).length := by simp
      simp -dsimp only [add1 (a := P.length + B1.length) (by omega), o3.idx (i := P.length + B1.length + 1) (by simp; omega), o3.idx (i := P.length + B1.length) (by simp), B.pv_some]
      refine o3.ld S' (get_mid2 i2) ?_
      refine o3.ld S' (get_mid i1) ?_
      refine o3.swapUp S' i1 i2 fun h4 o4 => ?_
      refine hZ B2.length _ _ (by simp) ⟨B1 ++ [z], B2, rfl, by simp [Nat.add_assoc], by simp, by simpa using o4⟩
end
end Go.Ab

/- What is proved: two sorted parts merged in place, stable: one element on the right; the split of two long parts. No conditions. -/
set_option linter.unusedVariables false
set_option linter.unusedSimpArgs false
namespace Go.Ab
variable {C : CSem} {N : Nat → Nat}
section
variable {E : ElOps} {T : Type} {cs : T → List AVal} {v : T → AVal} {c : T → T → Int} {h0 h : AHeap} {x f : AVal} {R : List (List AVal)} {Q : AVal → AHeap → Prop}

/-- One element on the right. -/
theorem symMergeR_spec (S : SeqSpec E cs v) (W : Weak (lessC c)) {f1 f2 : Nat} {P A U : List (T × Nat)} {y : T × Nat} (hA : 2 ≤ A.length) (hlen : (P ++ (A ++ y :: U)).length ≤ 100000000) (hs : A.Pairwise (lt' (lessC c))) (ht : ∀ q ∈ A, q.2 < y.2)
    (hc : CmpSpec C v c f h0) {a m b : Nat} (ha : a = P.length) (hm : m = P.length + A.length) (hb : b = P.length + A.length + 1) (ho : Rw E (fun p : T × Nat => cs p.1) h0 h x (P ++ (A ++ y :: U)) R)
    (hq : ∀ h' M', M'.Perm (A ++ [y]) → M'.Pairwise (lt' (lessC c)) → Rw E (fun p : T × Nat => cs p.1) h0 h' x (P ++ (M' ++ U)) R → Q (.tup []) h') :
    slices_symMergeCmpFuncG.cps C E f1 f2 x (.int .i64 (a : Int)) (.int .i64 (m : Int)) (.int .i64 (b : Int)) f h Q := by
  have S' := S.comp (fun p : T × Nat => p.1)
  subst ha
  have hlen' : P.length + A.length + 1 + U.length ≤ 100000000 := by simp at hlen; omega
  simp -dsimp only [slices_symMergeCmpFuncG.cps, slices_symMergeCmpFuncG.k17, slices_symMergeCmpFuncG.k12, sub64 (a := m) (b := P.length) (by omega) (by omega), sub64 (a := b) (b := m) (by omega) (by omega), eql1, B.pv_some]
  rw [show decide (m - P.length = 1) = false by simp; omega, B.cond_false]
  simp -dsimp only [slices_symMergeCmpFuncG.k12, sub64 (a := b) (b := m) (by omega) (by omega), eql1, B.pv_some]
  rw [show decide (b - m = 1) = true by simp; omega, B.cond_true]
  refine LoopR.intro (fun t vs hh => hh = h ∧ ∃ (D1 D2 D3 : List (T × Nat)), t = D2.length ∧ vs = [.int .i64 ((P.length + D1.length : Nat) : Int), .int .i64 ((P.length + D1.length + D2.length : Nat) : Int)] ∧ A = D1 ++ (D2 ++ D3) ∧ (∀ q ∈ D1, lt' (lessC c) q y) ∧ ∀ q ∈ D3, lt' (lessC c) y q) A.length ?_
    ⟨rfl, [], A, [], rfl, by simp; omega, by simp, by simp, by simp⟩
  rintro Y t vs hh ⟨rfl, D1, D2, D3, rfl, rfl, rfl, h1, h3⟩ hY
  simp only [List.length_append] at hlen' hb hm
  simp -dsimp only [slices_symMergeCmpFuncG.l11, slices_symMergeCmpFuncG.k10, lssN, B.pv_some]
  have g0 : (P ++ (D1 ++ (D2 ++ D3) ++ y :: U))[m]? = some y := by
    have := get_mid (P := P ++ (D1 ++ (D2 ++ D3))) (Q := U) (a := y) (i := m) (by simp; omega)
    simpa using this
  refine B.cond_bool (fun hk => ?_) (fun hk => ?_)
  · simp only [decide_eq_true_eq] at hk
    have hmid : (P.length + D1.length + (P.length + D1.length + D2.length)) / 2 = P.length + D1.length + D2.length / 2 := by omega
    simp -dsimp only [add64 (a := P.length + D1.length) (b := P.length + D1.length + D2.length) (by omega), toU64 (a := P.length + D1.length + (P.length + D1.length + D2.length)) (by omega), shr1, hmid, toI64 (a := P.length + D1.length + D2.length / 2) (by omega), B.pv_some]
    obtain ⟨E1, z, E2, rfl, hE⟩ := split_at (L := D2) (k := D2.length / 2) (by omega)
    rw [← hE]
    simp only [List.length_append, List.length_cons] at hlen' hb hk hm
    have g1 : (P ++ (D1 ++ (E1 ++ z :: E2 ++ D3) ++ y :: U))[P.length + D1.length + E1.length]? = some z := by
      have := get_mid (P := P ++ (D1 ++ E1)) (Q := E2 ++ D3 ++ y :: U) (a := z) (i := P.length + D1.length + E1.length) (by simp; omega)
      simpa using this
    simp -dsimp only [ho.idx (i := P.length + D1.length + E1.length) (by simp; omega), ho.idx (i := m) (by simp; omega), B.pv_some]
    refine ho.ld S' g0 ?_
    refine ho.ld S' g1 ?_
    refine hc.call _ _ _ _ ho.le ?_
    simp -dsimp only [V.bin_lss, V.un_not, B.pv_some]
    have hzy : z.2 < y.2 := ht z (by simp)
    have hs' := hs
    simp only [List.pairwise_append, List.pairwise_cons, List.mem_append, List.mem_cons] at hs'
    refine B.cond_bool (fun hl => ?_) (fun hl => ?_)
    · simp only [Bool.not_eq_true'] at hl
      have lz : lt' (lessC c) z y := (lt'_le W hzy).2 hl
      simp -dsimp only [add1 (a := P.length + D1.length + E1.length) (by omega), B.pv_some]
      refine hY E2.length _ _ (by simp; omega) ⟨rfl, D1 ++ E1 ++ [z], E2, D3, rfl, by simp; omega, by simp, ?_, h3⟩
      intro q hq
      simp only [List.mem_append, List.mem_singleton] at hq
      rcases hq with (hq | hq) | rfl
      · exact h1 q hq
      · exact lt'_trans W (hs'.2.1.1.2.2 q hq z (.inl rfl)) lz
      · exact lz
    · simp only [Bool.not_eq_false'] at hl
      have lz : lt' (lessC c) y z := (lt'_gt hzy).2 hl
      refine hY E1.length _ _ (by simp) ⟨rfl, D1, E1, z :: E2 ++ D3, rfl, rfl, by simp, h1, ?_⟩
      intro q hq
      simp only [List.cons_append, List.mem_cons, List.mem_append] at hq
      rcases hq with rfl | hq | hq
      · exact lz
      · exact lt'_trans W lz (hs'.2.1.1.2.1.1 q hq)
      · exact h3 q hq
  · simp only [decide_eq_false_iff_not] at hk
    have e : D2 = [] := List.eq_nil_of_length_eq_zero (by omega)
    subst e
    simp only [List.length_nil, List.nil_append, Nat.add_zero, Nat.zero_add] at hlen' hb hs hq ho hm
    refine LoopR.intro (fun t vs hh => ∃ (B1 B2 : List (T × Nat)), t = B1.length ∧ vs = [.int .i64 ((P.length + D1.length + B1.length : Nat) : Int)] ∧ D3 = B1 ++ B2 ∧ Rw E (fun p : T × Nat => cs p.1) h0 hh x (P ++ (D1 ++ (B1 ++ y :: (B2 ++ U)))) R) D3.length ?_
      ⟨D3, [], rfl, by simp; omega, by simp, by simpa using ho⟩
    rintro Z t vs h2 ⟨B1, B2, rfl, rfl, rfl, o2⟩ hZ
    simp only [List.length_append] at hlen' hb hm
    simp -dsimp only [slices_symMergeCmpFuncG.l9, slices_symMergeCmpFuncG.k8, gtrN, B.pv_some]
    obtain rfl | ⟨B0, z, rfl⟩ := nil_or_snoc B1
    · rw [show decide (P.length + D1.length < P.length + D1.length + ([] : List (T × Nat)).length) = false by simp, B.cond_false]
      refine hq h2 (D1 ++ y :: B2) ?_ ?_ (by simpa using o2)
      · simp only [List.nil_append, List.append_assoc]
        exact List.Perm.append_left _ (List.perm_append_singleton y B2).symm
      · simp only [List.nil_append] at hs h3
        rw [List.pairwise_append] at hs ⊢
        rw [List.pairwise_cons]
        refine ⟨hs.1, ⟨h3, hs.2.1⟩, fun p hp q hq2 => ?_⟩
        rcases List.mem_cons.1 hq2 with rfl | hq2
        · exact h1 p hp
        · exact hs.2.2 p hp q hq2
    · have eL : (B0 ++ [z]).length = B0.length + 1 := by simp
      rw [eL] at hlen' hb hm ⊢
      rw [show decide (P.length + D1.length < P.length + D1.length + (B0.length + 1)) = true by simp, B.cond_true]
      have o3 : Rw E (fun p : T × Nat => cs p.1) h0 h2 x ((P ++ (D1 ++ B0)) ++ z :: ([] ++ y :: (B2 ++ U))) R := by simpa using o2
      have i1 : P.length + D1.length + B0.length = (P ++ (D1 ++ B0)).length := by simp; omega
      have i2 : P.length + D1.length + (B0.length + 1) = (P ++ (D1 ++ B0)).length + 1 + ([] : List (T × Nat)).length := by simp; omega
      have i3 : P.length + D1.length + (B0.length + 1) - 1 = P.length + D1.length + B0.length := by omega
      simp -dsimp only [sub1 (a := P.length + D1.length + (B0.length + 1)) (by omega) (by omega), i3, o3.idx (i := P.length + D1.length + (B0.length + 1)) (by simp; omega), o3.idx (i := P.length + D1.length + B0.length) (by simp; omega), B.pv_some]
      refine o3.ld S' (get_mid i1) ?_
      refine o3.ld S' (get_mid2 i2) ?_
      refine o3.swapDn S' i1 i2 fun h4 o4 => ?_
      refine hZ B0.length _ _ (by simp) ⟨B0, z :: B2, rfl, rfl, by simp, by simpa using o4⟩

/-- A mathematical split of two sorted parts: the places found fit. -/
theorem pw_get {X : Type} {r : X → X → Prop} {L : List X} (h : L.Pairwise r) {i j : Nat} {a b : X} (hij : i < j) (ha : L[i]? = some a) (hb : L[j]? = some b) : r a b := by
  obtain ⟨h1, rfl⟩ := List.getElem?_eq_some_iff.1 ha
  obtain ⟨h2, rfl⟩ := List.getElem?_eq_some_iff.1 hb
  exact List.pairwise_iff_getElem.1 h i j h1 h2 hij
theorem mem_take_get {X : Type} {L : List X} {n : Nat} {a : X} (h : a ∈ L.take n) : ∃ i, i < n ∧ L[i]? = some a := by
  obtain ⟨i, hi⟩ := List.getElem?_of_mem h
  have : i < n := by have := (List.getElem?_eq_some_iff.1 hi).1; simp at this; omega
  exact ⟨i, this, by rwa [List.getElem?_take_of_lt this] at hi⟩
theorem mem_drop_get {X : Type} {L : List X} {n : Nat} {a : X} (h : a ∈ L.drop n) : ∃ i, n ≤ i ∧ L[i]? = some a := by
  obtain ⟨i, hi⟩ := List.getElem?_of_mem h
  rw [List.getElem?_drop] at hi
  exact ⟨n + i, by omega, hi⟩
theorem pw_low {less : T → T → Bool} (W : Weak less) {L : List (T × Nat)} (h : L.Pairwise (lt' less)) {i j : Nat} {a b w : T × Nat} (hij : i ≤ j) (ha : L[i]? = some a) (hb : L[j]? = some b) (hw : lt' less b w) : lt' less a w := by
  rcases Nat.lt_or_eq_of_le hij with k | rfl
  · exact lt'_trans W (pw_get h k ha hb) hw
  · rw [ha] at hb; cases hb; exact hw
theorem pw_high {less : T → T → Bool} (W : Weak less) {L : List (T × Nat)} (h : L.Pairwise (lt' less)) {i j : Nat} {a b w : T × Nat} (hij : i ≤ j) (ha : L[i]? = some a) (hb : L[j]? = some b) (hw : lt' less w a) : lt' less w b := by
  rcases Nat.lt_or_eq_of_le hij with k | rfl
  · exact lt'_trans W hw (pw_get h k ha hb)
  · rw [ha] at hb; cases hb; exact hw
end
end Go.Ab

/- What is proved: two sorted parts merged in place, stable. No conditions. -/
set_option linter.unusedVariables false
set_option linter.unusedSimpArgs false
namespace Go.Ab
variable {C : CSem} {N : Nat → Nat}
theorem and_lss {h : AHeap} {a b c d : Nat} {X Y : AHeap → Prop} (hx : a < b → c < d → X h) (hy : ¬(a < b ∧ c < d) → Y h) :
    (B.pv (V.bin .lss (.int .i64 (a : Int)) (.int .i64 (b : Int))) fun v => B.gd h v true (fun K => K (.int .i64 (c : Int)) h) fun v2 h => B.gd h v true (fun K => K (.int .i64 (d : Int)) h) fun v3 h =>
      B.gd h v true (fun K => B.pv (V.bin .lss v2 v3) fun v => K v h) fun v4 h => B.pick v v4 (.bool false) fun v5 => B.cond v5 (X h) (Y h) : Prop) := by
  rw [lssN]
  simp -dsimp only [B.pv_some]
  by_cases h1 : a < b
  · rw [show decide (a < b) = true by simpa using h1]
    simp -dsimp only [B.gd_t, B.gdb_true, lssN, B.pv_some, B.pick_t]
    refine B.cond_bool (fun h2 => hx h1 (by simpa using h2)) (fun h2 => hy fun k => by simp at h2; omega)
  · rw [show decide (a < b) = false by simpa using h1]
    simp -dsimp only [B.gd_t, B.gdb_false, B.pick_f, B.cond_false]
    exact hy fun k => h1 k.1

section
variable {E : ElOps} {T : Type} {cs : T → List AVal} {v : T → AVal} {c : T → T → Int} {h0 h : AHeap} {x f : AVal} {R : List (List AVal)} {Q : AVal → AHeap → Prop}

theorem symTail (S : SeqSpec E cs v) {f1 f2 f3 : Nat} {P A1 A2 D1 D2 U : List (T × Nat)} {a m b mid st en : Nat}
    (s1 : ∀ (x v1 v2 v3 f : AVal) (h : AHeap) (Q : AVal → AHeap → Prop), slices_symMergeCmpFuncG.cps C E f1 f2 x v1 v2 v3 f h (dn Q) → C f1 [x, v1, v2, v3, f] h Q)
    (s2 : ∀ (x v1 v2 v3 f : AVal) (h : AHeap) (Q : AVal → AHeap → Prop), slices_rotateCmpFuncG.cps C E f3 x v1 v2 v3 f h (dn Q) → C f2 [x, v1, v2, v3, f] h Q)
    (s3 : ∀ (x v1 v2 v3 f : AVal) (h : AHeap) (Q : AVal → AHeap → Prop), slices_swapRangeCmpFuncG.cps C E x v1 v2 v3 f h (dn Q) → C f3 [x, v1, v2, v3, f] h Q)
    (ih1 : ∀ (U : List (T × Nat)) (h : AHeap) (Q : AVal → AHeap → Prop), A1 ≠ [] → D1 ≠ [] → (P ++ (A1 ++ (D1 ++ U))).length ≤ 100000000 → Rw E (fun p : T × Nat => cs p.1) h0 h x (P ++ (A1 ++ (D1 ++ U))) R →
      (∀ h' M', M'.Perm (A1 ++ D1) → M'.Pairwise (lt' (lessC c)) → Rw E (fun p : T × Nat => cs p.1) h0 h' x (P ++ (M' ++ U)) R → Q (.tup []) h') → slices_symMergeCmpFuncG.cps C E f1 f2 x (.int .i64 (a : Int)) (.int .i64 (st : Int)) (.int .i64 (mid : Int)) f h Q)
    (ih2 : ∀ (P : List (T × Nat)) (h : AHeap) (Q : AVal → AHeap → Prop), A2 ≠ [] → D2 ≠ [] → P.length = mid → (P ++ (A2 ++ (D2 ++ U))).length ≤ 100000000 → Rw E (fun p : T × Nat => cs p.1) h0 h x (P ++ (A2 ++ (D2 ++ U))) R →
      (∀ h' M', M'.Perm (A2 ++ D2) → M'.Pairwise (lt' (lessC c)) → Rw E (fun p : T × Nat => cs p.1) h0 h' x (P ++ (M' ++ U)) R → Q (.tup []) h') → slices_symMergeCmpFuncG.cps C E f1 f2 x (.int .i64 (mid : Int)) (.int .i64 (en : Int)) (.int .i64 (b : Int)) f h Q)
    (hlen : P.length + A1.length + A2.length + D1.length + D2.length + U.length ≤ 100000000) (ha : a = P.length) (hst : st = P.length + A1.length) (hmid : mid = P.length + A1.length + D1.length) (hm : m = P.length + A1.length + A2.length)
    (hen : en = P.length + A1.length + A2.length + D1.length) (hb : b = P.length + A1.length + A2.length + D1.length + D2.length)
    (pA : (A1 ++ A2).Pairwise (lt' (lessC c))) (pD : (D1 ++ D2).Pairwise (lt' (lessC c))) (x1 : ∀ p ∈ A1, ∀ q ∈ D2, lt' (lessC c) p q) (x2 : ∀ p ∈ D1, ∀ q ∈ A2, lt' (lessC c) p q)
    (ho : Rw E (fun p : T × Nat => cs p.1) h0 h x (P ++ (A1 ++ (A2 ++ (D1 ++ (D2 ++ U))))) R)
    (hq : ∀ h' M', M'.Perm ((A1 ++ A2) ++ (D1 ++ D2)) → M'.Pairwise (lt' (lessC c)) → Rw E (fun p : T × Nat => cs p.1) h0 h' x (P ++ (M' ++ U)) R → Q (.tup []) h') :
    slices_symMergeCmpFuncG.k3 C E f1 f2 Q x (.int .i64 (a : Int)) (.int .i64 (m : Int)) (.int .i64 (b : Int)) f (.int .i64 (mid : Int)) (.int .i64 (st : Int)) (.int .i64 (en : Int)) h := by
  have S' := S.comp (fun p : T × Nat => p.1)
  rw [List.pairwise_append] at pA pD
  have fin : ∀ h' M1 M2, M1.Perm (A1 ++ D1) → M1.Pairwise (lt' (lessC c)) → M2.Perm (A2 ++ D2) → M2.Pairwise (lt' (lessC c)) → Rw E (fun p : T × Nat => cs p.1) h0 h' x (P ++ (M1 ++ (M2 ++ U))) R → Q (.tup []) h' := by
    intro h' M1 M2 p1 w1 p2 w2 o
    refine hq h' (M1 ++ M2) ?_ ?_ (by simpa using o)
    · refine (p1.append p2).trans ?_
      simp only [List.append_assoc]
      refine List.Perm.append_left _ ?_
      rw [← List.append_assoc, ← List.append_assoc]
      exact List.Perm.append_right _ List.perm_append_comm
    · rw [List.pairwise_append]
      refine ⟨w1, w2, fun p hp q hq => ?_⟩
      rcases List.mem_append.1 (p1.mem_iff.1 hp) with h1 | h1 <;> rcases List.mem_append.1 (p2.mem_iff.1 hq) with h2 | h2
      · exact pA.2.2 p h1 q h2
      · exact x1 p h1 q h2
      · exact x2 p h1 q h2
      · exact pD.2.2 p h1 q h2
  have k1 : ∀ h' M1, M1.Perm (A1 ++ D1) → M1.Pairwise (lt' (lessC c)) → Rw E (fun p : T × Nat => cs p.1) h0 h' x (P ++ (M1 ++ (A2 ++ (D2 ++ U)))) R →
      slices_symMergeCmpFuncG.k1 C E f1 f2 Q x (.int .i64 (b : Int)) f (.int .i64 (mid : Int)) (.int .i64 (en : Int)) h' := by
    intro h' M1 p1 w1 o
    have l1 := p1.length_eq
    rw [List.length_append] at l1
    refine and_lss (fun k1 k2 => ?_) (fun k => ?_)
    · refine s1 _ _ _ _ _ _ _ (ih2 (P ++ M1) h' _ ?_ ?_ ?_ ?_ (by simpa using o) fun h2 M2 p2 w2 o2 => dn_same (fin h2 M1 M2 p1 w1 p2 w2 (by simpa using o2)))
      · rintro rfl; simp at hen; omega
      · rintro rfl; simp at hb; omega
      · simp; omega
      · simp; omega
    · have : A2 = [] ∨ D2 = [] := by
        rcases Nat.eq_zero_or_pos A2.length with e | e
        · exact .inl (List.eq_nil_of_length_eq_zero e)
        · exact .inr (List.eq_nil_of_length_eq_zero (by omega))
      refine fin h' M1 (A2 ++ D2) p1 w1 (List.Perm.refl _) ?_ (by simpa using o)
      rcases this with rfl | rfl
      · simpa using pD.2.1
      · simpa using pA.2.1
  have k2 : ∀ h', Rw E (fun p : T × Nat => cs p.1) h0 h' x (P ++ (A1 ++ (D1 ++ (A2 ++ (D2 ++ U))))) R →
      slices_symMergeCmpFuncG.k2 C E f1 f2 Q x (.int .i64 (a : Int)) (.int .i64 (b : Int)) f (.int .i64 (mid : Int)) (.int .i64 (st : Int)) (.int .i64 (en : Int)) h' := by
    intro h' o
    refine and_lss (fun k1' k2 => ?_) (fun k => ?_)
    · refine s1 _ _ _ _ _ _ _ (ih1 (A2 ++ (D2 ++ U)) h' _ ?_ ?_ ?_ o fun h2 M1 p1 w1 o2 => dn_same (k1 h2 M1 p1 w1 o2))
      · rintro rfl; simp at hst; omega
      · rintro rfl; simp at hmid; omega
      · simp; omega
    · have : A1 = [] ∨ D1 = [] := by
        rcases Nat.eq_zero_or_pos A1.length with e | e
        · exact .inl (List.eq_nil_of_length_eq_zero e)
        · exact .inr (List.eq_nil_of_length_eq_zero (by omega))
      refine k1 h' (A1 ++ D1) (List.Perm.refl _) ?_ (by simpa using o)
      rcases this with rfl | rfl
      · simpa using pD.1
      · simpa using pA.1
  refine and_lss (fun g1 g2 => ?_) (fun k => ?_)
  · refine s2 _ _ _ _ _ _ _ (rotate_spec S' s3 (P := P ++ A1) (A := A2) (D := D1) (U := D2 ++ U) ?_ ?_ (by simp; omega) (by simp; omega) (by simp; omega) (by simp; omega) (by simpa using ho) fun h2 o2 => dn_same (k2 h2 (by simpa using o2)))
    · rintro rfl; simp at hm; omega
    · rintro rfl; simp at hen; omega
  · refine k2 h ?_
    have : A2 = [] ∨ D1 = [] := by
      rcases Nat.eq_zero_or_pos A2.length with e | e
      · exact .inl (List.eq_nil_of_length_eq_zero e)
      · exact .inr (List.eq_nil_of_length_eq_zero (by omega))
    rcases this with rfl | rfl <;> simpa using ho
end
end Go.Ab

/- What is proved: stable sorting of one's own list by a comparison. No conditions. -/
set_option linter.unusedVariables false
set_option linter.unusedSimpArgs false
namespace Go.Ab
variable {C : CSem} {N : Nat → Nat}
section
variable {E : ElOps} {T : Type} {cs : T → List AVal} {v : T → AVal} {c : T → T → Int} {h0 h : AHeap} {x f : AVal} {R : List (List AVal)} {Q : AVal → AHeap → Prop}

theorem symLoop (S : SeqSpec E cs v) (W : Weak (lessC c)) {f1 f2 : Nat} {P A D U : List (T × Nat)} {a m b mid n pp μ s0 r0 : Nat} (hc : CmpSpec C v c f h0)
    (pA : A.Pairwise (lt' (lessC c))) (pD : D.Pairwise (lt' (lessC c))) (ht : ∀ p ∈ A, ∀ q ∈ D, p.2 < q.2)
    (hlen : P.length + A.length + D.length + U.length ≤ 100000000) (ha : a = P.length) (hm : m = P.length + A.length) (hb : b = P.length + A.length + D.length) (hmid : mid = P.length + μ) (hn : n = mid + m) (hpp : pp = n - 1)
    (q1 : s0 ≤ r0) (q2 : r0 ≤ A.length) (q3 : r0 ≤ μ) (q4 : μ ≤ s0 + D.length) (e1 : s0 = 0 ∨ μ = s0 + D.length) (e2 : r0 = A.length ∨ r0 = μ)
    (ho : Rw E (fun p : T × Nat => cs p.1) h0 h x (P ++ (A ++ (D ++ U))) R)
    (hq : ∀ A1 A2 D1 D2, A = A1 ++ A2 → D = D1 ++ D2 → A1.length + D1.length = μ → (∀ p ∈ A1, ∀ q ∈ D2, lt' (lessC c) p q) → (∀ p ∈ D1, ∀ q ∈ A2, lt' (lessC c) p q) →
      slices_symMergeCmpFuncG.k3 C E f1 f2 Q x (.int .i64 (a : Int)) (.int .i64 (m : Int)) (.int .i64 (b : Int)) f (.int .i64 (mid : Int)) (.int .i64 ((P.length + A1.length : Nat) : Int)) (.int .i64 ((m + D1.length : Nat) : Int)) h) :
    LoopR (slices_symMergeCmpFuncG.l5 C E f1 f2 Q x (.int .i64 (a : Int)) (.int .i64 (m : Int)) (.int .i64 (b : Int)) f (.int .i64 (mid : Int)) (.int .i64 (n : Int)) (.int .i64 (pp : Int))) [.int .i64 ((P.length + s0 : Nat) : Int), .int .i64 ((P.length + r0 : Nat) : Int)] h := by
  have S' := S.comp (fun p : T × Nat => p.1)
  refine LoopR.intro (fun t vs hh => hh = h ∧ ∃ (s r : Nat), t = r - s ∧ vs = [.int .i64 ((P.length + s : Nat) : Int), .int .i64 ((P.length + r : Nat) : Int)] ∧ s0 ≤ s ∧ s ≤ r ∧ r ≤ r0 ∧
    (s = s0 ∨ 0 < s ∧ ∃ u w, A[s - 1]? = some u ∧ D[μ - s]? = some w ∧ lt' (lessC c) u w) ∧ (r = r0 ∨ ∃ u w, A[r]? = some u ∧ D[μ - 1 - r]? = some w ∧ lt' (lessC c) w u)) (r0 - s0) ?_
    ⟨rfl, s0, r0, rfl, rfl, Nat.le_refl _, q1, Nat.le_refl _, .inl rfl, .inl rfl⟩
  rintro Y t vs hh ⟨rfl, s, r, rfl, rfl, i1, i2, i3, lo, hi⟩ hY
  simp -dsimp only [slices_symMergeCmpFuncG.l5, slices_symMergeCmpFuncG.k4, lssN, B.pv_some]
  refine B.cond_bool (fun hk => ?_) (fun hk => ?_)
  · simp only [decide_eq_true_eq] at hk
    have hk' : s < r := by omega
    have hmd : (P.length + s + (P.length + r)) / 2 = P.length + (s + r) / 2 := by omega
    have k1 : s ≤ (s + r) / 2 := by omega
    have k2 : (s + r) / 2 < r := by omega
    have hpk : pp - (P.length + (s + r) / 2) = m + (μ - 1 - (s + r) / 2) := by omega
    simp -dsimp only [add64 (a := P.length + s) (b := P.length + r) (by omega), toU64 (a := P.length + s + (P.length + r)) (by omega), shr1, hmd, toI64 (a := P.length + (s + r) / 2) (by omega), sub64 (a := pp) (b := P.length + (s + r) / 2) (by omega) (by omega), hpk, B.pv_some]
    generalize hkk : (s + r) / 2 = k at *
    have gA : A[k]? = some A[k] := List.getElem?_eq_getElem (by omega)
    have gD : D[μ - 1 - k]? = some D[μ - 1 - k] := List.getElem?_eq_getElem (by omega)
    have g1 : (P ++ (A ++ (D ++ U)))[m + (μ - 1 - k)]? = some D[μ - 1 - k] := by
      rw [List.getElem?_append_right (by omega), List.getElem?_append_right (by omega), List.getElem?_append_left (by omega), show m + (μ - 1 - k) - P.length - A.length = μ - 1 - k by omega]; exact gD
    have g2 : (P ++ (A ++ (D ++ U)))[P.length + k]? = some A[k] := by
      rw [List.getElem?_append_right (by omega), List.getElem?_append_left (by omega), show P.length + k - P.length = k by omega]; exact gA
    simp -dsimp only [ho.idx (i := m + (μ - 1 - k)) (by simp; omega), ho.idx (i := P.length + k) (by simp; omega), B.pv_some]
    refine ho.ld S' g1 ?_
    refine ho.ld S' g2 ?_
    refine hc.call _ _ _ _ ho.le ?_
    simp -dsimp only [V.bin_lss, V.un_not, B.pv_some]
    have htt : A[k].2 < D[μ - 1 - k].2 := ht _ (List.getElem_mem _) _ (List.getElem_mem _)
    refine B.cond_bool (fun hl => ?_) (fun hl => ?_)
    · simp only [Bool.not_eq_true'] at hl
      have lz : lt' (lessC c) A[k] D[μ - 1 - k] := (lt'_le W htt).2 hl
      simp -dsimp only [add1 (a := P.length + k) (by omega), B.pv_some]
      refine hY (r - (k + 1)) _ _ (by omega) ⟨rfl, k + 1, r, rfl, by rw [Nat.add_assoc], by omega, by omega, i3, .inr ⟨by omega, A[k], D[μ - 1 - k], by rw [Nat.add_sub_cancel]; exact gA, by rw [show μ - (k + 1) = μ - 1 - k by omega]; exact gD, lz⟩, hi⟩
    · simp only [Bool.not_eq_false'] at hl
      have lz : lt' (lessC c) D[μ - 1 - k] A[k] := (lt'_gt htt).2 hl
      refine hY (k - s) _ _ (by omega) ⟨rfl, s, k, rfl, rfl, i1, by omega, by omega, lo, .inr ⟨A[k], D[μ - 1 - k], gA, gD, lz⟩⟩
  · simp only [decide_eq_false_iff_not] at hk
    have e : s = r := by omega
    subst e
    simp -dsimp only [sub64 (a := n) (b := P.length + s) (by omega) (by omega), show n - (P.length + s) = m + (μ - s) by omega, B.pv_some]
    have := hq (A.take s) (A.drop s) (D.take (μ - s)) (D.drop (μ - s)) (List.take_append_drop _ _).symm (List.take_append_drop _ _).symm (by simp; omega) ?_ ?_
    · rw [show (A.take s).length = s by simp; omega, show (D.take (μ - s)).length = μ - s by simp; omega] at this
      exact this
    · intro p hp q hq2
      obtain ⟨i, k1, k2⟩ := mem_take_get hp
      obtain ⟨j, k3, k4⟩ := mem_drop_get hq2
      rcases lo with rfl | ⟨k0, u, w, hu, hw, huw⟩
      · rcases e1 with e1 | e1
        · omega
        · have := (List.getElem?_eq_some_iff.1 k4).1; omega
      · exact pw_high W pD (show μ - s ≤ j by omega) hw k4 (pw_low W pA (show i ≤ s - 1 by omega) k2 hu huw)
    · intro p hp q hq2
      obtain ⟨i, k1, k2⟩ := mem_take_get hp
      obtain ⟨j, k3, k4⟩ := mem_drop_get hq2
      rcases hi with rfl | ⟨u, w, hu, hw, huw⟩
      · rcases e2 with e2 | e2
        · have := (List.getElem?_eq_some_iff.1 k4).1; omega
        · omega
      · exact pw_high W pA (show s ≤ j by omega) hu k4 (pw_low W pD (show i ≤ μ - 1 - s by omega) k2 hw huw)

/-- Two sorted parts are merged. -/
theorem symMerge_spec (S : SeqSpec E cs v) (W : Weak (lessC c)) {f1 f2 f3 : Nat} (hc : CmpSpec C v c f h0)
    (s1 : ∀ (x v1 v2 v3 f : AVal) (h : AHeap) (Q : AVal → AHeap → Prop), slices_symMergeCmpFuncG.cps C E f1 f2 x v1 v2 v3 f h (dn Q) → C f1 [x, v1, v2, v3, f] h Q)
    (s2 : ∀ (x v1 v2 v3 f : AVal) (h : AHeap) (Q : AVal → AHeap → Prop), slices_rotateCmpFuncG.cps C E f3 x v1 v2 v3 f h (dn Q) → C f2 [x, v1, v2, v3, f] h Q)
    (s3 : ∀ (x v1 v2 v3 f : AVal) (h : AHeap) (Q : AVal → AHeap → Prop), slices_swapRangeCmpFuncG.cps C E x v1 v2 v3 f h (dn Q) → C f3 [x, v1, v2, v3, f] h Q) :
    ∀ (k : Nat) (P A D U : List (T × Nat)) (a m b : Nat) (h : AHeap) (Q : AVal → AHeap → Prop), A.length + D.length = k → A ≠ [] → D ≠ [] → (P ++ (A ++ (D ++ U))).length ≤ 100000000 → a = P.length → m = P.length + A.length → b = P.length + A.length + D.length →
      A.Pairwise (lt' (lessC c)) → D.Pairwise (lt' (lessC c)) → (∀ p ∈ A, ∀ q ∈ D, p.2 < q.2) → Rw E (fun p : T × Nat => cs p.1) h0 h x (P ++ (A ++ (D ++ U))) R →
      (∀ h' M', M'.Perm (A ++ D) → M'.Pairwise (lt' (lessC c)) → Rw E (fun p : T × Nat => cs p.1) h0 h' x (P ++ (M' ++ U)) R → Q (.tup []) h') →
      slices_symMergeCmpFuncG.cps C E f1 f2 x (.int .i64 (a : Int)) (.int .i64 (m : Int)) (.int .i64 (b : Int)) f h Q := by
  intro k
  induction k using Nat.strongRecOn with
  | ind k ih =>
  intro P A D U a m b h Q hk hA hD hlen ha hm hb pA pD ht ho hq
  have kA := List.length_pos_iff.2 hA
  have kD := List.length_pos_iff.2 hD
  by_cases hA1 : A.length = 1
  · obtain ⟨y, rfl⟩ := List.length_eq_one_iff.1 hA1
    exact symMergeL_spec S W (D := D) hlen pD (fun q hq => ht y (by simp) q hq) hc ha hm hb ho hq
  by_cases hD1 : D.length = 1
  · obtain ⟨y, rfl⟩ := List.length_eq_one_iff.1 hD1
    exact symMergeR_spec S W (by omega) hlen pA (fun q hq => ht q hq y (by simp)) hc ha hm hb ho hq
  simp only [List.length_append] at hlen
  generalize hμ : (A.length + D.length) / 2 = μ
  have hmd : (a + b) / 2 = P.length + μ := by omega
  have main : ∀ A1 A2 D1 D2, A = A1 ++ A2 → D = D1 ++ D2 → A1.length + D1.length = μ → (∀ p ∈ A1, ∀ q ∈ D2, lt' (lessC c) p q) → (∀ p ∈ D1, ∀ q ∈ A2, lt' (lessC c) p q) →
      slices_symMergeCmpFuncG.k3 C E f1 f2 Q x (.int .i64 (a : Int)) (.int .i64 (m : Int)) (.int .i64 (b : Int)) f (.int .i64 ((P.length + μ : Nat) : Int)) (.int .i64 ((P.length + A1.length : Nat) : Int)) (.int .i64 ((m + D1.length : Nat) : Int)) h := by
    rintro A1 A2 D1 D2 rfl rfl hl x1 x2
    simp only [List.length_append] at hlen hb hm hk hA1 hD1 hμ kA kD
    have pA' := List.pairwise_append.1 pA
    have pD' := List.pairwise_append.1 pD
    refine symTail S s1 s2 s3 (P := P) (A1 := A1) (A2 := A2) (D1 := D1) (D2 := D2) (U := U) ?_ ?_ (by omega) ha rfl (by omega) (by omega) (by omega) (by omega) pA pD x1 x2 (by simpa using ho) hq
    · intro U h Q n1 n2 hl2 o hq
      exact ih _ (show A1.length + D1.length < k by omega) P A1 D1 U _ _ _ h Q rfl n1 n2 hl2 ha rfl (by omega) pA'.1 pD'.1 (fun p hp q hq => ht p (List.mem_append_left _ hp) q (List.mem_append_left _ hq)) o hq
    · intro P2 h Q n1 n2 hp hl2 o hq
      exact ih _ (show A2.length + D2.length < k by omega) P2 A2 D2 U _ _ _ h Q rfl n1 n2 hl2 hp.symm (by omega) (by omega) pA'.2.1 pD'.2.1 (fun p hp q hq => ht p (List.mem_append_right _ hp) q (List.mem_append_right _ hq)) o hq
  simp -dsimp only [slices_symMergeCmpFuncG.cps, slices_symMergeCmpFuncG.k17, sub64 (a := m) (b := a) (by omega) (by omega), eql1, B.pv_some]
  rw [show decide (m - a = 1) = false by simp; omega, B.cond_false]
  simp -dsimp only [slices_symMergeCmpFuncG.k12, sub64 (a := b) (b := m) (by omega) (by omega), eql1, B.pv_some]
  rw [show decide (b - m = 1) = false by simp; omega, B.cond_false]
  simp -dsimp only [slices_symMergeCmpFuncG.k7, slices_symMergeCmpFuncG.k6, add64 (a := a) (b := b) (by omega), toU64 (a := a + b) (by omega), shr1, hmd, toI64 (a := P.length + μ) (by omega), add64 (a := P.length + μ) (b := m) (by omega), gtrN, B.pv_some]
  refine B.cond_bool (fun hg => ?_) (fun hg => ?_)
  · simp only [decide_eq_true_eq] at hg
    simp -dsimp only [sub64 (a := P.length + μ + m) (b := b) (by omega) (by omega), sub1 (a := P.length + μ + m) (by omega) (by omega), show P.length + μ + m - b = P.length + (μ - D.length) by omega, B.pv_some]
    exact symLoop S W (P := P) (A := A) (D := D) (U := U) (s0 := μ - D.length) (r0 := μ) hc pA pD ht (by omega) ha hm hb rfl rfl rfl (by omega) (by omega) (by omega) (by omega) (.inr (by omega)) (.inr rfl) ho main
  · simp only [decide_eq_false_iff_not] at hg
    simp -dsimp only [sub1 (a := P.length + μ + m) (by omega) (by omega), B.pv_some]
    have := symLoop S W (f1 := f1) (f2 := f2) (P := P) (A := A) (D := D) (U := U) (s0 := 0) (r0 := A.length) (Q := Q) hc pA pD ht (by omega) ha hm hb rfl rfl rfl (by omega) (by omega) (by omega) (by omega) (.inl rfl) (.inl rfl) ho main
    rw [show P.length + 0 = a by omega, show P.length + A.length = m by omega] at this
    exact this
end
end Go.Ab

/- What is proved: slices.SortStableFunc, whatever the elements and the comparison. No conditions. -/
set_option linter.unusedVariables false
set_option linter.unusedSimpArgs false
namespace Go.Ab
variable {C : CSem} {N : Nat → Nat}
theorem mul2l {a : Nat} (h : a < 2305843009213693952) : V.bin .mul (.int .i64 2) (.int .i64 (a : Int)) = some (.int .i64 ((2 * a : Nat) : Int)) := by
  rw [V.bin_mul, wrap_i64 (by omega) (by omega)]; simp
theorem mul2r {a : Nat} (h : a < 2305843009213693952) : V.bin .mul (.int .i64 (a : Int)) (.int .i64 2) = some (.int .i64 ((2 * a : Nat) : Int)) := by
  rw [V.bin_mul, wrap_i64 (by omega) (by omega)]; congr 2; omega
def Apt {T : Type} (A D : List (T × Nat)) : Prop := ∀ p ∈ A, ∀ q ∈ D, p.2 < q.2
theorem flat_full {X : Type} {bs : Nat} : ∀ {Bs : List (List X)}, (∀ B ∈ Bs, B.length = bs) → Bs.flatten.length = Bs.length * bs
  | [], _ => by simp
  | B :: Bs, h => by
    simp only [List.flatten_cons, List.length_append, List.length_cons, Nat.add_mul, Nat.one_mul]
    rw [h B (by simp), flat_full fun B hB => h B (by simp [hB])]; omega

section
variable {E : ElOps} {T : Type} {cs : T → List AVal} {v : T → AVal} {c : T → T → Int} {h0 h : AHeap} {x f : AVal} {R : List (List AVal)} {Q : AVal → AHeap → Prop}

/-- The merging of blocks of a length, until one is left. -/
theorem mergeAll_spec (S : SeqSpec E cs v) (W : Weak (lessC c)) {f1 f2 f3 f4 : Nat} (hc : CmpSpec C v c f h0)
    (s1 : ∀ (x v1 v2 v3 f : AVal) (h : AHeap) (Q : AVal → AHeap → Prop), slices_symMergeCmpFuncG.cps C E f1 f2 x v1 v2 v3 f h (dn Q) → C f1 [x, v1, v2, v3, f] h Q)
    (s2 : ∀ (x v1 v2 v3 f : AVal) (h : AHeap) (Q : AVal → AHeap → Prop), slices_rotateCmpFuncG.cps C E f3 x v1 v2 v3 f h (dn Q) → C f2 [x, v1, v2, v3, f] h Q)
    (s3 : ∀ (x v1 v2 v3 f : AVal) (h : AHeap) (Q : AVal → AHeap → Prop), slices_swapRangeCmpFuncG.cps C E x v1 v2 v3 f h (dn Q) → C f3 [x, v1, v2, v3, f] h Q)
    {G0 M0 : List (T × Nat)} {Bs0 : List (List (T × Nat))} {bs0 n : Nat} (hbs : 0 < bs0) (hb1 : bs0 ≤ 200000000) (hn : n = G0.length) (hlen : G0.length ≤ 100000000)
    (hf : ∀ B ∈ Bs0, B.length = bs0 ∧ B.Pairwise (lt' (lessC c))) (hM : M0.length < bs0) (hMs : M0.Pairwise (lt' (lessC c))) (hap : (Bs0 ++ [M0]).Pairwise Apt) (hp : (Bs0.flatten ++ M0).Perm G0)
    (ho : Rw E (fun p : T × Nat => cs p.1) h0 h x (Bs0.flatten ++ M0) R)
    (hq : ∀ h' M', M'.Perm G0 → M'.Pairwise (lt' (lessC c)) → Rw E (fun p : T × Nat => cs p.1) h0 h' x M' R → Q (.tup []) h') :
    LoopR (slices_stableCmpFuncG.l5 C E f1 f4 Q x (.int .i64 (n : Int)) f) [.int .i64 (bs0 : Int)] h := by
  have sm := symMerge_spec (R := R) (h0 := h0) (x := x) S W hc s1 s2 s3
  refine LoopR.intro (fun t vs hh => ∃ (bs : Nat) (Bs : List (List (T × Nat))) (M : List (T × Nat)), t = n - bs ∧ vs = [.int .i64 (bs : Int)] ∧ 0 < bs ∧ bs ≤ 200000000 ∧ (∀ B ∈ Bs, B.length = bs ∧ B.Pairwise (lt' (lessC c))) ∧ M.length < bs ∧ M.Pairwise (lt' (lessC c)) ∧
    (Bs ++ [M]).Pairwise Apt ∧ (Bs.flatten ++ M).Perm G0 ∧ Rw E (fun p : T × Nat => cs p.1) h0 hh x (Bs.flatten ++ M) R) (n - bs0) ?_ ⟨bs0, Bs0, M0, rfl, rfl, hbs, hb1, hf, hM, hMs, hap, hp, ho⟩
  rintro Y t vs hh ⟨bs, Bs, M, rfl, rfl, hbs, hb1, hf, hM, hMs, hap, hp, o⟩ hY
  simp -dsimp only [slices_stableCmpFuncG.l5, slices_stableCmpFuncG.k4, lssN, B.pv_some]
  have hl := hp.length_eq
  rw [List.length_append, flat_full fun B hB => (hf B hB).1] at hl
  refine B.cond_bool (fun hk => ?_) (fun hk => ?_)
  · simp only [decide_eq_true_eq] at hk
    simp -dsimp only [mul2l (a := bs) (by omega), B.pv_some]
    refine LoopR.intro (fun t vs h2 => ∃ (Cs Bs : List (List (T × Nat))), t = Bs.length ∧ vs = [.int .i64 ((Cs.flatten.length : Nat) : Int), .int .i64 ((Cs.flatten.length + 2 * bs : Nat) : Int)] ∧ (∀ B ∈ Cs, B.length = 2 * bs ∧ B.Pairwise (lt' (lessC c))) ∧ (∀ B ∈ Bs, B.length = bs ∧ B.Pairwise (lt' (lessC c))) ∧
      (Cs ++ (Bs ++ [M])).Pairwise Apt ∧ (Cs.flatten ++ (Bs.flatten ++ M)).Perm G0 ∧ Rw E (fun p : T × Nat => cs p.1) h0 h2 x (Cs.flatten ++ (Bs.flatten ++ M)) R) Bs.length ?_ ⟨[], Bs, rfl, by simp, by simp, hf, by simpa using hap, by simpa using hp, by simpa using o⟩
    clear hf hap hp o hl
    rintro Z t vs h2 ⟨Cs, Bs, rfl, rfl, hC, hf, hap, hp, o⟩ hZ
    have hl := hp.length_eq
    have hlB := flat_full fun B hB => (hf B hB).1
    simp only [List.length_append] at hl
    simp -dsimp only [slices_stableCmpFuncG.l3, slices_stableCmpFuncG.k2, leqN, B.pv_some]
    rw [List.pairwise_append, List.pairwise_append] at hap
    match Bs, hf, hap, hp, o, hZ, hlB, hl with
    | [], hf, hap, hp, o, hZ, hlB, hl =>
      simp only [List.length_nil, Nat.zero_mul, List.flatten_nil, List.nil_append] at hlB hl hap hp o
      rw [show decide (Cs.flatten.length + 2 * bs ≤ n) = false by simp only [decide_eq_false_iff_not]; omega, B.cond_false]
      simp -dsimp only [slices_stableCmpFuncG.k1, add64 (a := Cs.flatten.length) (b := bs) (by omega), lssN, mul2r (a := bs) (by omega), B.pv_some]
      rw [show decide (Cs.flatten.length + bs < n) = false by simp only [decide_eq_false_iff_not]; omega, B.cond_false]
      simp -dsimp only [mul2r (a := bs) (by omega), B.pv_some]
      refine hY (n - 2 * bs) _ _ (by omega) ⟨2 * bs, Cs, M, rfl, rfl, by omega, by omega, hC, by omega, hMs, ?_, hp, o⟩
      rw [List.pairwise_append]; exact ⟨hap.1, List.pairwise_singleton .., hap.2.2⟩
    | [B1], hf, hap, hp, o, hZ, hlB, hl =>
      simp only [List.length_singleton, Nat.one_mul, List.flatten_cons, List.flatten_nil, List.append_nil] at hlB hl hp o
      have hB1 := hf B1 (by simp)
      have hB1l := hB1.1
      rw [show decide (Cs.flatten.length + 2 * bs ≤ n) = false by simp only [decide_eq_false_iff_not]; omega, B.cond_false]
      simp -dsimp only [slices_stableCmpFuncG.k1, add64 (a := Cs.flatten.length) (b := bs) (by omega), lssN, B.pv_some]
      have hBM : Apt B1 M := by
        have := hap.2.1.2.2 B1 (by simp) M (by simp); exact this
      have hCB : ∀ A ∈ Cs, Apt A B1 := fun A hA => hap.2.2 A hA B1 (by simp)
      have hCM : ∀ A ∈ Cs, Apt A M := fun A hA => hap.2.2 A hA M (by simp)
      refine B.cond_bool (fun hg => ?_) (fun hg => ?_)
      · simp only [decide_eq_true_eq] at hg
        refine s1 _ _ _ _ _ _ _ (sm _ Cs.flatten B1 M [] _ _ _ h2 _ rfl (by rintro rfl; simp at hB1; omega) (by rintro rfl; simp only [List.length_nil] at hl; omega) (by simp only [List.length_append, List.length_nil]; omega) rfl (by rw [hB1.1]) (by omega) hB1.2 hMs hBM (by simpa using o) fun h3 M' p3 w3 o3 => dn_same ?_)
        simp -dsimp only [mul2r (a := bs) (by omega), B.pv_some]
        have l3 := p3.length_eq
        rw [List.length_append] at l3
        refine hY (n - 2 * bs) _ _ (by omega) ⟨2 * bs, Cs, M', rfl, rfl, by omega, by omega, hC, by omega, w3, ?_, ?_, by simpa using o3⟩
        · rw [List.pairwise_append]
          refine ⟨hap.1, List.pairwise_singleton .., fun A hA D hD => ?_⟩
          rw [List.mem_singleton.1 hD]
          intro p hpA q hq
          rcases List.mem_append.1 (p3.mem_iff.1 hq) with k | k
          · exact hCB A hA p hpA q k
          · exact hCM A hA p hpA q k
        · exact (List.Perm.append_left _ p3).trans hp
      · simp only [decide_eq_false_iff_not] at hg
        have : M = [] := List.eq_nil_of_length_eq_zero (by omega)
        subst this
        simp -dsimp only [mul2r (a := bs) (by omega), B.pv_some]
        refine hY (n - 2 * bs) _ _ (by omega) ⟨2 * bs, Cs, B1, rfl, rfl, by omega, by omega, hC, by omega, hB1.2, ?_, by simpa using hp, by simpa using o⟩
        rw [List.pairwise_append]
        refine ⟨hap.1, List.pairwise_singleton .., fun A hA D hD => ?_⟩
        rw [List.mem_singleton.1 hD]
        exact hCB A hA
    | B1 :: B2 :: Bs, hf, hap, hp, o, hZ, hlB, hl =>
      simp only [List.length_cons, List.flatten_cons, List.length_append] at hlB hl
      have hB1 := hf B1 (by simp)
      have hB2 := hf B2 (by simp)
      simp only [List.flatten_cons, List.append_assoc] at hp o
      rw [show decide (Cs.flatten.length + 2 * bs ≤ n) = true by simp only [decide_eq_true_eq]; omega, B.cond_true]
      simp -dsimp only [add64 (a := Cs.flatten.length) (b := bs) (by omega), B.pv_some]
      have h12 : Apt B1 B2 := by
        have := hap.2.1.1; rw [List.pairwise_cons] at this; exact this.1 B2 (by simp)
      refine s1 _ _ _ _ _ _ _ (sm _ Cs.flatten B1 B2 (Bs.flatten ++ M) _ _ _ h2 _ rfl (by rintro rfl; simp at hB1; omega) (by rintro rfl; simp at hB2; omega) (by simp only [List.length_append]; omega) rfl (by rw [hB1.1]) (by omega) hB1.2 hB2.2 h12 o fun h3 M' p3 w3 o3 => dn_same ?_)
      simp -dsimp only [mul2l (a := bs) (by omega), add64 (a := Cs.flatten.length + 2 * bs) (b := 2 * bs) (by omega), B.pv_some]
      have l3 := p3.length_eq
      rw [List.length_append] at l3
      have e3 : (Cs ++ [M']).flatten = Cs.flatten ++ M' := by simp
      refine hZ Bs.length _ _ (by simp; omega) ⟨Cs ++ [M'], Bs, rfl, ?_, ?_, fun B hB => hf B (by simp [hB]), ?_, ?_, ?_⟩
      · rw [e3, List.length_append]; rw [show Cs.flatten.length + M'.length = Cs.flatten.length + 2 * bs by omega]
      · intro B hB
        rcases List.mem_append.1 hB with k | k
        · exact hC B k
        · rw [List.mem_singleton.1 k]; exact ⟨by omega, w3⟩
      · have a1 := hap.2.1.1
        rw [List.pairwise_cons, List.pairwise_cons] at a1
        rw [List.append_assoc, List.pairwise_append]
        refine ⟨hap.1, ?_, ?_⟩
        · rw [List.singleton_append, List.pairwise_cons]
          refine ⟨fun D hD p hpM q hq => ?_, ?_⟩
          · rcases List.mem_append.1 (p3.mem_iff.1 hpM) with k | k
            · rcases List.mem_append.1 hD with kk | kk
              · exact a1.1 D (by simp [kk]) p k q hq
              · exact hap.2.1.2.2 B1 (by simp) D kk p k q hq
            · rcases List.mem_append.1 hD with kk | kk
              · exact a1.2.1 D kk p k q hq
              · exact hap.2.1.2.2 B2 (by simp) D kk p k q hq
          · rw [List.pairwise_append]
            exact ⟨a1.2.2, List.pairwise_singleton .., fun A hA D hD => hap.2.1.2.2 A (by simp [hA]) D hD⟩
        · intro A hA D hD
          rcases List.mem_append.1 hD with k | k
          · rw [List.mem_singleton.1 k]
            intro p hpA q hq
            rcases List.mem_append.1 (p3.mem_iff.1 hq) with kk | kk
            · exact hap.2.2 A hA B1 (by simp) p hpA q kk
            · exact hap.2.2 A hA B2 (by simp) p hpA q kk
          · refine hap.2.2 A hA D ?_
            rcases List.mem_append.1 k with kk | kk
            · simp [kk]
            · simp at kk; simp [kk]
      · rw [e3, List.append_assoc]
        refine List.Perm.trans (List.Perm.append_left _ ?_) hp
        rw [← List.append_assoc B1]
        exact List.Perm.append_right _ p3
      · rw [e3, List.append_assoc]; exact o3
  · simp only [decide_eq_false_iff_not] at hk
    refine hq hh (Bs.flatten ++ M) hp ?_ o
    match Bs, hf, hl with
    | [], _, _ => simpa using hMs
    | [B1], hf, hl =>
      have hB1 := hf B1 (by simp)
      simp at hl
      have : M = [] := List.eq_nil_of_length_eq_zero (by omega)
      subst this
      simpa using hB1.2
    | B1 :: B2 :: Bs, hf, hl =>
      simp only [List.length_cons, Nat.add_mul, Nat.one_mul] at hl
      omega
end
end Go.Ab

/- What is proved: slices.SortStableFunc gives the stable order, whatever the elements and the comparison. No conditions. -/
set_option linter.unusedVariables false
set_option linter.unusedSimpArgs false
namespace Go.Ab
variable {C : CSem} {N : Nat → Nat}
section
variable {E : ElOps} {T : Type} {cs : T → List AVal} {v : T → AVal} {c : T → T → Int} {h0 h : AHeap} {x f : AVal} {R : List (List AVal)} {Q : AVal → AHeap → Prop}

/-- The five functions of the library, by their numbers. -/
structure SortFns (C : CSem) (E : ElOps) (f1 f2 f3 f4 f5 : Nat) : Prop where
  s1 : ∀ (x v1 v2 v3 f : AVal) (h : AHeap) (Q : AVal → AHeap → Prop), slices_symMergeCmpFuncG.cps C E f1 f2 x v1 v2 v3 f h (dn Q) → C f1 [x, v1, v2, v3, f] h Q
  s2 : ∀ (x v1 v2 v3 f : AVal) (h : AHeap) (Q : AVal → AHeap → Prop), slices_rotateCmpFuncG.cps C E f3 x v1 v2 v3 f h (dn Q) → C f2 [x, v1, v2, v3, f] h Q
  s3 : ∀ (x v1 v2 v3 f : AVal) (h : AHeap) (Q : AVal → AHeap → Prop), slices_swapRangeCmpFuncG.cps C E x v1 v2 v3 f h (dn Q) → C f3 [x, v1, v2, v3, f] h Q
  s4 : ∀ (x v1 v2 f : AVal) (h : AHeap) (Q : AVal → AHeap → Prop), slices_insertionSortCmpFuncG.cps C E x v1 v2 f h (dn Q) → C f4 [x, v1, v2, f] h Q
  s5 : ∀ (x v1 f : AVal) (h : AHeap) (Q : AVal → AHeap → Prop), slices_stableCmpFuncG.cps C E f1 f4 x v1 f h (dn Q) → C f5 [x, v1, f] h Q

theorem stable_spec (S : SeqSpec E cs v) (W : Weak (lessC c)) {f1 f2 f3 f4 f5 : Nat} (F : SortFns C E f1 f2 f3 f4 f5) (hc : CmpSpec C v c f h0)
    {G0 : List (T × Nat)} {n : Nat} (hn : n = G0.length) (hlen : G0.length ≤ 100000000) (ht : G0.Pairwise fun a b => a.2 < b.2) (ho : Rw E (fun p : T × Nat => cs p.1) h0 h x G0 R)
    (hq : ∀ h' M', M'.Perm G0 → M'.Pairwise (lt' (lessC c)) → Rw E (fun p : T × Nat => cs p.1) h0 h' x M' R → Q (.tup []) h') :
    slices_stableCmpFuncG.cps C E f1 f4 x (.int .i64 (n : Int)) f h Q := by
  show LoopR (slices_stableCmpFuncG.l7 C E f1 f4 Q x (.int .i64 (n : Int)) f (.int .i64 ((20 : Nat) : Int))) [.int .i64 ((0 : Nat) : Int), .int .i64 ((20 : Nat) : Int)] h
  refine LoopR.intro (fun t vs hh => ∃ (Bs : List (List (T × Nat))) (M : List (T × Nat)), t = M.length ∧ vs = [.int .i64 ((Bs.flatten.length : Nat) : Int), .int .i64 ((Bs.flatten.length + 20 : Nat) : Int)] ∧ (∀ B ∈ Bs, B.length = 20 ∧ B.Pairwise (lt' (lessC c))) ∧
    M.Pairwise (fun a b => a.2 < b.2) ∧ (Bs ++ [M]).Pairwise Apt ∧ (Bs.flatten ++ M).Perm G0 ∧ Rw E (fun p : T × Nat => cs p.1) h0 hh x (Bs.flatten ++ M) R) G0.length ?_
    ⟨[], G0, rfl, by simp, by simp, ht, List.pairwise_singleton .., by simp, by simpa using ho⟩
  rintro Y t vs hh ⟨Bs, M, rfl, rfl, hf, hM, hap, hp, o⟩ hY
  have hl := hp.length_eq
  rw [List.length_append] at hl
  simp -dsimp only [slices_stableCmpFuncG.l7, slices_stableCmpFuncG.k6, leqN, B.pv_some]
  refine B.cond_bool (fun hk => ?_) (fun hk => ?_)
  · simp only [decide_eq_true_eq] at hk
    have t1 : (M.take 20).length = 20 := by simp; omega
    have eM := (List.take_append_drop 20 M).symm
    have o2 : Rw E (fun p : T × Nat => cs p.1) h0 hh x (Bs.flatten ++ (M.take 20 ++ M.drop 20)) R := by rw [← eM]; exact o
    have hM2 := hM
    rw [eM, List.pairwise_append] at hM2
    refine F.s4 _ _ _ _ _ _ (insertionSort_spec S W (P := Bs.flatten) (M := M.take 20) (U := M.drop 20) (by rw [← eM, List.length_append]; omega) hM2.1 hc rfl (by rw [t1]) o2 fun h2 M' p2 w2 o3 => dn_same ?_)
    have l2 := p2.length_eq
    rw [t1] at l2
    simp -dsimp only [add64 (a := Bs.flatten.length + 20) (b := 20) (by omega), B.pv_some]
    have e3 : (Bs ++ [M']).flatten = Bs.flatten ++ M' := by simp
    rw [List.pairwise_append] at hap
    refine hY (M.drop 20).length _ _ (by simp; omega) ⟨Bs ++ [M'], M.drop 20, rfl, ?_, ?_, hM2.2.1, ?_, ?_, ?_⟩
    · rw [e3, List.length_append, l2]
    · intro B hB
      rcases List.mem_append.1 hB with k | k
      · exact hf B k
      · rw [List.mem_singleton.1 k]; exact ⟨l2, w2⟩
    · rw [List.append_assoc, List.pairwise_append, List.singleton_append, List.pairwise_cons]
      refine ⟨hap.1, ⟨fun D hD p hp q hq => ?_, List.pairwise_singleton ..⟩, fun A hA D hD p hp q hq => ?_⟩
      · rw [List.mem_singleton.1 hD] at hq
        exact hM2.2.2 p (p2.mem_iff.1 hp) q hq
      · rcases List.mem_cons.1 hD with rfl | hD
        · exact hap.2.2 A hA M (by simp) p hp q (List.mem_of_mem_take (p2.mem_iff.1 hq))
        · rw [List.mem_singleton.1 hD] at hq
          exact hap.2.2 A hA M (by simp) p hp q (List.mem_of_mem_drop hq)
    · rw [e3, List.append_assoc]
      refine List.Perm.trans (List.Perm.append_left _ ?_) hp
      conv => rhs; rw [eM]
      exact List.Perm.append_right _ p2
    · rw [e3, List.append_assoc]; exact o3
  · simp only [decide_eq_false_iff_not] at hk
    refine F.s4 _ _ _ _ _ _ (insertionSort_spec S W (P := Bs.flatten) (M := M) (U := []) (by rw [List.append_nil, List.length_append]; omega) hM hc rfl (by omega) (by simpa using o) fun h2 M' p2 w2 o3 => dn_same ?_)
    have l2 := p2.length_eq
    rw [List.append_nil] at o3
    rw [List.pairwise_append] at hap
    refine mergeAll_spec S W hc F.s1 F.s2 F.s3 (by omega) (by omega) hn hlen hf (by omega) w2 ?_ ((List.Perm.append_left _ p2).trans hp) o3 hq
    rw [List.pairwise_append]
    refine ⟨hap.1, List.pairwise_singleton .., fun A hA D hD p hp q hq => ?_⟩
    rw [List.mem_singleton.1 hD] at hq
    exact hap.2.2 A hA M (by simp) p hp q (p2.mem_iff.1 hq)

theorem zipIdx_up {X : Type} (L : List X) : L.zipIdx.Pairwise fun a b => a.2 < b.2 := by
  rw [List.pairwise_iff_getElem]
  intro i j h1 h2 hij
  simp [List.getElem_zipIdx]
  omega

/-- slices.SortStableFunc. -/
theorem sortStable_spec (S : SeqSpec E cs v) (W : Weak (lessC c)) {f1 f2 f3 f4 f5 : Nat} (F : SortFns C E f1 f2 f3 f4 f5) (hc : CmpSpec C v c f h0)
    {L : List T} (hlen : L.length ≤ 100000000) (ho : Rw E cs h0 h x L R)
    (hq : ∀ h' L', StableSort (lessC c) L L' → Rw E cs h0 h' x L' R → Q (.tup []) h') :
    slices_SortStableFuncG.cps C E f5 x f h Q := by
  simp -dsimp only [slices_SortStableFuncG.cps, ho.lenE, B.pv_some]
  have e : (L.zipIdx.map fun p : T × Nat => cs p.1) = L.map cs := by
    have := congrArg (List.map cs) (List.zipIdx_map_fst 0 L)
    rw [List.map_map] at this
    exact this
  refine F.s5 _ _ _ _ _ (stable_spec (G0 := L.zipIdx) S W F hc (by simp) (by simpa using hlen) (zipIdx_up L) (by unfold Rw; rw [e]; exact ho) fun h' M' p w o => dn_same ?_)
  refine hq h' (M'.map (·.1)) ⟨M', rfl, p, w⟩ ?_
  unfold Rw at o ⊢
  rw [List.map_map]; exact o
end
end Go.Ab

/- What is proved: a list sorted one by one, each behind all that are not above it, stands in the stable order. No conditions. -/
set_option linter.unusedVariables false
set_option linter.unusedSimpArgs false
namespace Go.Ab
section
variable {T : Type} {c : T → T → Int}
/-- Where x goes, among the first n. -/
def posB (c : T → T → Int) (x : T) (out : List T) : Nat → Nat
  | 0 => 0
  | n + 1 => match out[n]? with
    | some o => if c x o < 0 then posB c x out n else n + 1
    | none => n + 1
def insB (c : T → T → Int) (out : List T) (x : T) : List T := out.take (posB c x out out.length) ++ x :: out.drop (posB c x out out.length)
def sortB (c : T → T → Int) (L : List T) : List T := L.foldl (insB c) []
theorem posB_le (x : T) (out : List T) : ∀ n, posB c x out n ≤ n
  | 0 => Nat.le_refl _
  | n + 1 => by
    unfold posB
    have := posB_le x out n
    split
    · split <;> omega
    · omega
theorem posB_above (x : T) (out : List T) : ∀ n, n ≤ out.length → ∀ i o, posB c x out n ≤ i → i < n → out[i]? = some o → c x o < 0
  | 0, _, i, o, _, h, _ => by omega
  | n + 1, hn, i, o, h1, h2, h3 => by
    unfold posB at h1
    rw [List.getElem?_eq_getElem (show n < out.length by omega)] at h1
    simp only at h1
    split at h1
    · rename_i hc
      by_cases e : i = n
      · subst e
        rw [List.getElem?_eq_getElem (show i < out.length by omega)] at h3
        cases h3; exact hc
      · exact posB_above x out n (by omega) i o h1 (by omega) h3
    · omega
theorem posB_last (x : T) (out : List T) : ∀ n, n ≤ out.length → posB c x out n = 0 ∨ ∃ o, out[posB c x out n - 1]? = some o ∧ ¬ c x o < 0
  | 0, _ => .inl rfl
  | n + 1, hn => by
    have hg := List.getElem?_eq_getElem (show n < out.length by omega)
    by_cases hc : c x out[n] < 0
    · have e : posB c x out (n + 1) = posB c x out n := by
        rw [posB, hg]; simp [hc]
      rw [e]; exact posB_last x out n (by omega)
    · have e : posB c x out (n + 1) = n + 1 := by
        rw [posB, hg]; simp [hc]
      rw [e]; exact .inr ⟨out[n], by rw [Nat.add_sub_cancel]; exact hg, hc⟩

theorem insB_step (W : Weak (lessC c)) {G : List (T × Nat)} {x : T} {n : Nat} (hs : G.Pairwise (lt' (lessC c))) (ht : ∀ p ∈ G, p.2 < n) :
    ∃ G' : List (T × Nat), G'.map (·.1) = insB c (G.map (·.1)) x ∧ G'.Perm (G ++ [(x, n)]) ∧ G'.Pairwise (lt' (lessC c)) := by
  generalize hk : posB c x (G.map (·.1)) (G.map (·.1)).length = k
  have hkl : k ≤ G.length := by have := posB_le (c := c) x (G.map (·.1)) (G.map (·.1)).length; rw [hk] at this; simpa using this
  refine ⟨G.take k ++ (x, n) :: G.drop k, ?_, ?_, ?_⟩
  · unfold insB; rw [hk]; simp
  · have h1 : (G.take k ++ (x, n) :: G.drop k).Perm ((x, n) :: (G.take k ++ G.drop k)) := List.perm_middle
    rw [List.take_append_drop] at h1
    exact h1.trans (List.perm_append_singleton _ _).symm
  · have hG := hs
    rw [← List.take_append_drop k G, List.pairwise_append] at hs
    rw [List.pairwise_append, List.pairwise_cons]
    have up : ∀ p ∈ G.drop k, lt' (lessC c) (x, n) p := fun p hp => by
      obtain ⟨i, h1, h2⟩ := mem_drop_get hp
      have hi := (List.getElem?_eq_some_iff.1 h2).1
      have := posB_above (c := c) x (G.map (·.1)) _ (Nat.le_refl _) i p.1 (by rw [hk]; exact h1) (by simpa using hi) (by rw [List.getElem?_map, h2]; rfl)
      exact .inl (by simpa [lessC] using this)
    have lo : ∀ p ∈ G.take k, lt' (lessC c) p (x, n) := fun p hp => by
      obtain ⟨i, h1, h2⟩ := mem_take_get hp
      rcases posB_last (c := c) x (G.map (·.1)) _ (Nat.le_refl _) with h0 | ⟨o, ho, hc⟩
      · rw [hk] at h0; omega
      · rw [hk, List.getElem?_map] at ho
        cases hq : G[k - 1]? with
        | none => rw [hq] at ho; cases ho
        | some q =>
          rw [hq] at ho; cases ho
          refine pw_low W hG (show i ≤ k - 1 by omega) h2 hq ?_
          exact (lt'_le (x := q) (y := (x, n)) W (ht q (List.mem_of_getElem? hq))).2 (by simpa [lessC] using hc)
    refine ⟨hs.1, ⟨up, hs.2.1⟩, fun p hp q hq => ?_⟩
    rcases List.mem_cons.1 hq with rfl | hq
    · exact lo p hp
    · exact hs.2.2 p hp q hq
theorem sortB_stable (W : Weak (lessC c)) (L : List T) : StableSort (lessC c) L (sortB c L) := by
  suffices h : ∀ k, k ≤ L.length → ∃ G : List (T × Nat), G.map (·.1) = (L.take k).foldl (insB c) [] ∧ G.Perm (L.zipIdx.take k) ∧ G.Pairwise (lt' (lessC c)) by
    have := h L.length (Nat.le_refl _)
    rw [List.take_length, List.take_of_length_le (by simp)] at this
    exact this
  intro k
  induction k with
  | zero => exact fun _ => ⟨[], rfl, by simp, .nil⟩
  | succ k ih =>
    intro hk
    obtain ⟨G, h1, h2, h3⟩ := ih (by omega)
    have hg : L.zipIdx.take (k + 1) = L.zipIdx.take k ++ [(L[k], k)] := by
      rw [List.take_add_one, List.getElem?_eq_getElem (by rw [List.length_zipIdx]; omega)]
      simp [List.getElem_zipIdx]
    have hl : L.take (k + 1) = L.take k ++ [L[k]] := by
      rw [List.take_add_one, List.getElem?_eq_getElem (show k < L.length by omega)]; rfl
    have ht : ∀ p ∈ G, p.2 < k := fun p hp => by
      obtain ⟨i, i1, i2⟩ := mem_take_get (h2.mem_iff.1 hp)
      obtain ⟨j1, j2⟩ := List.getElem?_eq_some_iff.1 i2
      rw [List.getElem_zipIdx] at j2
      rw [← j2]; simpa using i1
    obtain ⟨G', g1, g2, g3⟩ := insB_step W (x := L[k]) h3 ht
    refine ⟨G', ?_, ?_, g3⟩
    · rw [g1, hl, List.foldl_append, h1]; rfl
    · rw [hg]; exact g2.trans (List.Perm.append_right _ h2)
theorem stable_sortB (W : Weak (lessC c)) {L S : List T} (h : StableSort (lessC c) L S) : S = sortB c L := h.unique W (sortB_stable W L)
end
end Go.Ab

/- What is proved: contracts of lots' functions, the program's. No conditions. -/
set_option linter.unusedVariables false
set_option linter.unusedSimpArgs false
namespace Go.Ab
variable {C : CSem} {N : Nat → Nat}

def cmpInt (a b : Int) : Int := if a < b then -1 else if b < a then 1 else 0
def orInt (a b : Int) : Int := if a = 0 then b else a
def cmp_isNaN_int.Spec (C : CSem) (N : Nat → Nat) : Prop := ∀ (a : Int) (h : AHeap) (Q : AVal → AHeap → Prop), Q (.bool false) h → C (N 171) [.int .i64 a] h Q
theorem cmp_isNaN_int.spec (i : cmp_isNaN_int.Imp C N) : cmp_isNaN_int.Spec C N := by
  intro a h Q hq
  apply i
  simp -dsimp
  exact dn_same hq
def cmp_Compare_int.Spec (C : CSem) (N : Nat → Nat) : Prop := ∀ (a b : Int) (h : AHeap) (Q : AVal → AHeap → Prop), Q (.int .i64 (cmpInt a b)) h → C (N 157) [.int .i64 a, .int .i64 b] h Q
theorem cmp_Compare_int.spec (i : cmp_Compare_int.Imp C N) (s1 : cmp_isNaN_int.Spec C N) : cmp_Compare_int.Spec C N := by
  intro a b h Q hq
  apply i
  simp -dsimp
  refine s1 _ _ _ ?_
  refine s1 _ _ _ ?_
  simp -dsimp
  refine B.cond_bool (fun hb => ?_) (fun hb => ?_) <;> simp -dsimp at hb ⊢
  · rw [cmpInt, if_pos hb] at hq; exact dn_same hq
  · refine B.cond_bool (fun hc => ?_) (fun hc => ?_) <;> simp -dsimp at hc ⊢
    · rw [cmpInt, if_neg (by omega), if_pos hc] at hq; exact dn_same hq
    · rw [cmpInt, if_neg (by omega), if_neg (by omega)] at hq; exact dn_same hq
def cmp_Or_int.Spec (C : CSem) (N : Nat → Nat) : Prop := ∀ (x : AVal) (a b : Int) (R : List (List AVal)) (h : AHeap) (Q : AVal → AHeap → Prop), SlX h 1 x [[.int .i64 a], [.int .i64 b]] R → Q (.int .i64 (orInt a b)) h → C (N 158) [x] h Q
theorem cmp_Or_int.spec (i : cmp_Or_int.Imp C N) : cmp_Or_int.Spec C N := by
  intro x a b R h Q hx hq
  apply i
  have e1 := hx.lenSl
  have e2 : V.idxS 1 x (.int .i64 0) = some (elp 1 x 0 0) := hx.idxN (i := 0) (by simp)
  have e3 : V.idxS 1 x (.int .i64 1) = some (elp 1 x 1 0) := hx.idxN (i := 1) (by simp)
  have e4 := hx.cell (i := 0) (c := .int .i64 a) rfl
  have e5 := hx.cell (i := 1) (c := .int .i64 b) rfl
  have w1 : IntKind.i64.wrap 1 = 1 := wrap_i64 (by omega) (by omega)
  have w2 : IntKind.i64.wrap 2 = 2 := wrap_i64 (by omega) (by omega)
  simp -dsimp [e1]
  intro Y hY
  refine hY _ _ ?_
  simp -dsimp [e2, e4, w1]
  refine B.cond_bool (fun hb => ?_) (fun hb => ?_) <;> simp -dsimp at hb ⊢
  · rw [orInt, if_neg hb] at hq; exact dn_same hq
  · rw [orInt, if_pos hb] at hq
    refine hY _ _ ?_
    simp -dsimp [e3, e5, w1, w2]
    refine B.cond_bool (fun hc => ?_) (fun hc => ?_) <;> simp -dsimp at hc ⊢
    · exact dn_same hq
    · refine hY _ _ ?_
      simp -dsimp [w1, w2]
      rw [hc] at hq; exact dn_same hq

def lotCmp (a b : Lot) : Int := orInt (cmpInt a.Until b.Until) (cmpInt a.Id b.Id)
theorem lotCmp_neg (a b : Lot) : lotCmp a b < 0 ↔ a.Until < b.Until ∨ (a.Until = b.Until ∧ a.Id < b.Id) := by
  unfold lotCmp orInt cmpInt
  repeat' split
  all_goals omega
theorem lotW : Weak (lessC lotCmp) where
  asym {a b} h := by
    simp only [lessC, decide_eq_true_eq, decide_eq_false_iff_not, lotCmp_neg] at *
    omega
  ntrans {a b c} h k := by
    simp only [lessC, decide_eq_false_iff_not, lotCmp_neg] at *
    omega
def lot_Compare.Spec (C : CSem) (N : Nat → Nat) : Prop := ∀ (a b : Lot) (h : AHeap) (Q : AVal → AHeap → Prop), Q (.int .i64 (lotCmp a b)) h → C (N 144) [.agg a.cs, .agg b.cs] h Q
theorem lot_Compare.spec (i : lot_Compare.Imp C N) (s1 : cmp_Compare_int.Spec C N) (s2 : cmp_Or_int.Spec C N) : lot_Compare.Spec C N := by
  intro a b h Q hq
  apply i
  simp -dsimp
  refine s1 _ _ _ _ ?_
  refine s1 _ _ _ _ ?_
  simp -dsimp [repL]
  intro id hid
  refine s2 _ _ _ [] _ _ (SlX.lit (upd_same ..) (by simp) rfl (by simp) rfl) ?_
  exact dn_le (le_upd _ hid) hq
def lotE : ElOps := opsF 6 56 [.int .i64 0, .str [], .int .i64 0, .int .i64 0, .int .i64 0, .bool false] 0 []
theorem lotS : SeqSpec lotE Lot.cs (fun l => .agg l.cs) := seqF (by omega) (by omega) rfl fun _ => rfl

/-- A list of one's own out of another. -/
theorem clone_spec {E : ElOps} {X : Type} {cs : X → List AVal} {v : X → AVal} (S : SeqSpec E cs v) {x : AVal} {L : List X} {R : List (List AVal)} {h : AHeap} {Q : AVal → AHeap → Prop} (hx : SlX h E.es x (L.map cs) R) (hlen : L.length ≤ 100000000)
    (hq : ∀ x' h', Rw E cs h h' x' L [] → Q x' h') : slices_CloneG.cps C E x h Q := by
  have cp : B.appW h E.es E.bytes .sz x (fun v7 h => Q v7 h) := by
    have hm := Nat.mul_le_mul hlen S.small
    refine Owns.appW ((Owns.start h).sz E.es) 0 rfl hx S.pos (by simp; omega) (by simp [maxLen]; omega) fun x' h' h1 _ => hq x' h' ?_
    simpa [Rw] using h1
  rcases hx.2 with ⟨e1, e2, rfl | rfl⟩ | ⟨id, g, off, cp', b, hi, rfl, h3⟩
  · simp -dsimp [V.eqSl]
    refine hq _ _ ?_
    unfold Rw
    rw [e1]
    exact (Owns.start h).nils E.es
  · simp -dsimp [V.eqSl]
    exact cp
  · simp -dsimp [V.eqSl]
    rw [List.length_map] at cp
    exact cp
def slices_Clone_api_Lot_api_Lot.Spec (C : CSem) (N : Nat → Nat) : Prop := ∀ (x : AVal) (L : List Lot) (R : List (List AVal)) (h : AHeap) (Q : AVal → AHeap → Prop), SlX h 6 x (L.map Lot.cs) R → L.length ≤ 100000000 →
  (∀ x' h', Owns h h' [.sl 6 x' (L.map Lot.cs) []] → Q x' h') → C (N 160) [x] h Q
theorem slices_Clone_api_Lot_api_Lot.spec (i : slices_Clone_api_Lot_api_Lot.Imp C N) : slices_Clone_api_Lot_api_Lot.Spec C N := by
  intro x L R h Q hx hlen hq
  exact i _ _ _ (clone_spec lotS hx hlen fun x' h' ho => dn_same (hq x' h' ho))
def slices_SortStableFunc_api_Lot_api_Lot.Spec (C : CSem) (N : Nat → Nat) : Prop := ∀ (h0 h : AHeap) (x f : AVal) (c : Lot → Lot → Int) (L : List Lot) (R : List (List AVal)) (Q : AVal → AHeap → Prop), Weak (lessC c) → CmpSpec C (fun l : Lot => .agg l.cs) c f h0 → L.length ≤ 100000000 →
  Owns h0 h [.sl 6 x (L.map Lot.cs) R] → (∀ h', Owns h0 h' [.sl 6 x ((sortB c L).map Lot.cs) R] → Q (.tup []) h') → C (N 161) [x, f] h Q
theorem slices_SortStableFunc_api_Lot_api_Lot.spec (i : slices_SortStableFunc_api_Lot_api_Lot.Imp C N) (i1 : slices_symMergeCmpFunc_api_Lot.Imp C N) (i2 : slices_rotateCmpFunc_api_Lot.Imp C N) (i3 : slices_swapRangeCmpFunc_api_Lot.Imp C N) (i4 : slices_insertionSortCmpFunc_api_Lot.Imp C N) (i5 : slices_stableCmpFunc_api_Lot.Imp C N) :
    slices_SortStableFunc_api_Lot_api_Lot.Spec C N := by
  intro h0 h x f c L R Q W hc hlen ho hq
  refine i _ _ _ _ (sortStable_spec lotS W (f1 := N 167) (f2 := N 169) (f3 := N 170) (f4 := N 168) ⟨i1, i2, i3, i4, i5⟩ hc hlen ho fun h' L' st o => dn_same (hq h' ?_))
  rw [← stable_sortB W st]; exact o

def sortLots (L : List Lot) : List Lot := sortB lotCmp L
def lot_Sort.Spec (C : CSem) (N : Nat → Nat) : Prop := ∀ (x : AVal) (L : List Lot) (R : List (List AVal)) (h : AHeap) (Q : AVal → AHeap → Prop), SlX h 6 x (L.map Lot.cs) R → L.length ≤ 100000000 →
  (∀ x' h', Owns h h' [.sl 6 x' ((sortLots L).map Lot.cs) []] → Q x' h') → C (N 149) [x] h Q
theorem lot_Sort.spec (i : lot_Sort.Imp C N) (s1 : slices_Clone_api_Lot_api_Lot.Spec C N) (s2 : slices_SortStableFunc_api_Lot_api_Lot.Spec C N) (s3 : lot_Compare.Spec C N) : lot_Sort.Spec C N := by
  intro x L R h Q hx hlen hq
  apply i
  simp -dsimp
  refine s1 _ _ _ _ _ hx hlen fun x' h' ho => ?_
  refine s2 _ _ _ _ _ _ _ _ lotW ⟨fun h a b K _ hk => ?_⟩ hlen ho fun h2 o2 => dn_same (hq x' h2 o2)
  simp -dsimp
  exact s3 _ _ _ _ hk

/-! What of a list a function keeps. -/
def lot_some_api_Lot.Spec (C : CSem) (N : Nat → Nat) : Prop := ∀ (x f : AVal) (p : Lot → Bool) (L : List Lot) (R : List (List AVal)) (h : AHeap) (Q : AVal → AHeap → Prop), SlX h 6 x (L.map Lot.cs) R → L.length ≤ 100000000 →
  (∀ (l : Lot) (h' : AHeap) (K : AVal → AHeap → Prop), h.le h' → K (.bool (p l)) h' → B.callv h' C f [.agg l.cs] K) → (∀ x' h', Owns h h' [.sl 6 x' ((L.filter p).map Lot.cs) []] → Q x' h') → C (N 164) [x, f] h Q
theorem lot_some_api_Lot.spec (i : lot_some_api_Lot.Imp C N) : lot_some_api_Lot.Spec C N := by
  intro x f p L R h Q hx hlen hf hq
  apply i
  have e1 := hx.lenSl
  rw [List.length_map] at e1
  simp -dsimp [e1]
  refine LoopR.intro (fun t vs hh => ∃ (k : Nat) (y : AVal), k + t = L.length ∧ vs = [y, .int .i64 (k : Int)] ∧ Owns h hh [.sl 6 y (((L.take k).filter p).map Lot.cs) []]) L.length ?_ ⟨0, .nils, by simp, rfl, (Owns.start h).nils 6⟩
  rintro Y t vs hh ⟨k, y, ht, rfl, ho⟩ hY
  simp -dsimp
  refine B.cond_bool (fun hb => ?_) (fun hb => ?_) <;> simp -dsimp at hb ⊢
  · have hxx := hx.mono ho.le
    have hg : (L.map Lot.cs)[k]? = some (L[k]).cs := by rw [List.getElem?_map, List.getElem?_eq_getElem hb]; rfl
    have hel := hxx.elem hg
    have hidx := hxx.idxN (k := .i64) (i := k) (by simpa using hb)
    have htk : L.take (k + 1) = L.take k ++ [L[k]] := by rw [List.take_add_one, List.getElem?_eq_getElem hb]; rfl
    simp -dsimp [hidx, hel]
    refine hf L[k] _ _ ho.le ?_
    refine B.cond_bool (fun hc => ?_) (fun hc => ?_) <;> simp -dsimp at hc ⊢
    · refine ho.push 0 rfl (cs := (L[k]).cs) rfl (by omega) (by have := List.length_filter_le p (L.take k); simp at this ⊢; omega) (by have := List.length_filter_le p (L.take k); simp [maxLen] at this ⊢; omega) fun y' h2 o2 _ => ?_
      simp -dsimp [inc64 (n := k) (by omega)]
      refine hY (L.length - (k + 1)) _ _ (by omega) ⟨k + 1, y', by omega, by simp, ?_⟩
      rw [htk, List.filter_append, List.map_append]
      simpa [hc] using o2
    · simp -dsimp [inc64 (n := k) (by omega)]
      refine hY (L.length - (k + 1)) _ _ (by omega) ⟨k + 1, y, by omega, by simp, ?_⟩
      rw [htk, List.filter_append, List.map_append]
      simpa [hc] using ho
  · rw [List.take_of_length_le (by omega)] at ho
    exact dn_same (hq y hh ho)
end Go.Ab

/- What is proved: contracts of lots' functions: what is over, what is an item's, what can be used; the document's order. No conditions. -/
set_option linter.unusedVariables false
set_option linter.unusedSimpArgs false
namespace Go.Ab
variable {C : CSem} {N : Nat → Nat}
theorem keepL {h h' : AHeap} {p x : AVal} {K : AVal → AHeap → Prop} {v : AVal} (h1 : A.ldv h p = some x) (h2 : A.ldv h' p = some x) (hk : K v h') : B.keepS h [(p, none)] K v h' :=
  ⟨fun q hq => by rw [List.mem_singleton.1 hq]; exact ⟨x, h1, h2⟩, hk⟩
def lotOver (now : Int) (l : Lot) : Bool := l.Arrived && decide (l.Until ≤ now)
def lot_Sweep_1.Spec (C : CSem) (N : Nat → Nat) : Prop := ∀ (l : Lot) (q : AVal) (now : Int) (h : AHeap) (Q : AVal → AHeap → Prop), A.ldv h q = some (.int .i64 now) → Q (.bool (lotOver now l)) h → C (N 162) [.agg l.cs, q] h Q
theorem lot_Sweep_1.spec (i : lot_Sweep_1.Imp C N) : lot_Sweep_1.Spec C N := by
  intro l q now h Q hl hq
  apply i
  simp +contextual -dsimp [hl]
  exact dn_same hq
def lot_Sweep_2.Spec (C : CSem) (N : Nat → Nat) : Prop := ∀ (l : Lot) (q f : AVal) (b : Bool) (h : AHeap) (Q : AVal → AHeap → Prop), A.ldv h q = some f → (∀ K : AVal → AHeap → Prop, K (.bool b) h → B.callv h C f [.agg l.cs] K) → Q (.bool !b) h → C (N 163) [.agg l.cs, q] h Q
theorem lot_Sweep_2.spec (i : lot_Sweep_2.Imp C N) : lot_Sweep_2.Spec C N := by
  intro l q f b h Q hl hf hq
  apply i
  simp +contextual -dsimp [hl]
  refine hf _ ?_
  simp -dsimp
  exact dn_same hq
def lot_Of_1.Spec (C : CSem) (N : Nat → Nat) : Prop := ∀ (l : Lot) (q : AVal) (s : List UInt8) (h : AHeap) (Q : AVal → AHeap → Prop), A.ldv h q = some (.str s) → Q (.bool (decide (l.Item = s))) h → C (N 165) [.agg l.cs, q] h Q
theorem lot_Of_1.spec (i : lot_Of_1.Imp C N) : lot_Of_1.Spec C N := by
  intro l q s h Q hl hq
  apply i
  simp +contextual -dsimp [hl]
  exact dn_same hq
def lotOf (s : List UInt8) (L : List Lot) : List Lot := L.filter fun l => decide (l.Item = s)
def lot_Of.Spec (C : CSem) (N : Nat → Nat) : Prop := ∀ (x : AVal) (L : List Lot) (R : List (List AVal)) (s : List UInt8) (h : AHeap) (Q : AVal → AHeap → Prop), SlX h 6 x (L.map Lot.cs) R → L.length ≤ 100000000 →
  (∀ x' h', Owns h h' [.sl 6 x' ((lotOf s L).map Lot.cs) []] → Q x' h') → C (N 153) [x, .str s] h Q
theorem lot_Of.spec (i : lot_Of.Imp C N) (s1 : lot_some_api_Lot.Spec C N) (s2 : lot_Of_1.Spec C N) : lot_Of.Spec C N := by
  intro x L R s h Q hx hlen hq
  apply i
  simp -dsimp
  intro id hid
  have hle := le_upd (blkOf [AVal.str s]) hid
  refine s1 _ _ (fun l => decide (l.Item = s)) _ _ _ _ (hx.mono hle) hlen (fun l h' K hh hk => ?_) fun x' h' ho => dn_same (hq x' h' (ho.back hle))
  simp -dsimp
  exact s2 _ _ s _ _ (by rw [ldv_at (hh _ _ (upd_same ..))]; rfl) hk
def lot_Sweep.Spec (C : CSem) (N : Nat → Nat) : Prop := ∀ (x : AVal) (L : List Lot) (R : List (List AVal)) (now : Int) (h : AHeap) (Q : AVal → AHeap → Prop), SlX h 6 x (L.map Lot.cs) R → L.length ≤ 100000000 →
  (∀ x' y' h', Owns h h' [.sl 6 x' ((L.filter fun l => !lotOver now l).map Lot.cs) [], .sl 6 y' ((L.filter (lotOver now)).map Lot.cs) []] → Q (.tup [x', y']) h') → C (N 154) [x, .int .i64 now] h Q
theorem lot_Sweep.spec (i : lot_Sweep.Imp C N) (s1 : lot_some_api_Lot.Spec C N) (s2 : lot_Sweep_1.Spec C N) (s3 : lot_Sweep_2.Spec C N) : lot_Sweep.Spec C N := by
  intro x L R now h Q hx hlen hq
  apply i
  simp -dsimp
  intro id hid
  intro id2 hid2
  have hle := le_upd (blkOf [AVal.int .i64 now]) hid
  have hne : id2 ≠ id := fun e => by subst e; rw [upd_same] at hid2; cases hid2
  have o1 := ((Owns.start h).newBox hid [AVal.int .i64 now]).newBox hid2 [AVal.nilf]
  refine o1.boxSt 1 rfl rfl (by simp) fun h2 o2 _ => ?_
  simp only [List.nil_append, List.singleton_append, List.set_cons_succ, List.set_cons_zero] at o2
  obtain ⟨ia, e1, b1⟩ := o2.boxAt 0 rfl
  obtain ⟨ib, e2, b2⟩ := o2.boxAt 1 rfl
  cases e1; cases e2
  have ld2 := ldv_at b2 0
  simp at ld2
  simp -dsimp [ld2]
  have call : ∀ (l : Lot) (h' : AHeap) (K : AVal → AHeap → Prop), h2.le h' → K (.bool (lotOver now l)) h' → B.callv h' C (.fn (N 162) [] [.ptr id 0 0]) [.agg l.cs] K := fun l h' K hh hk => by
    simp -dsimp
    exact s2 _ _ now _ _ (by rw [ldv_at (hh _ _ b1)]; rfl) hk
  refine s1 _ _ (fun l => !lotOver now l) _ _ _ _ (hx.mono o2.le) hlen (fun l h' K hh hk => ?_) fun x' h3 o3 => ?_
  · simp -dsimp
    exact s3 _ _ _ _ _ _ (by rw [ldv_at (hh _ _ b2)]; rfl) (fun K hk => call l h' K hh hk) hk
  · refine keepL ld2 (by rw [ldv_at (o3.le _ _ b2)]; rfl) ?_
    refine s1 _ _ (lotOver now) _ _ _ _ (hx.mono (AHeap.le_trans o2.le o3.le)) hlen (fun l h' K hh hk => call l h' K (AHeap.le_trans o3.le hh) hk) fun y' h4 o4 => ?_
    exact dn_same (hq x' y' h4 ((o3.join o4).back o2.le))
/-- How much can be used: one by one. -/
def onStep (day n : Int) (l : Lot) : Int := if Window.has ⟨l.From, l.Until⟩ day then IntKind.i64.wrap (n + l.Qty) else n
def lotOn (L : List Lot) (day : Int) : Int := (L.filter lotRight).foldl (onStep day) 0
def lot_On.Spec (C : CSem) (N : Nat → Nat) : Prop := ∀ (x : AVal) (L : List Lot) (R : List (List AVal)) (day : Int) (h : AHeap) (Q : AVal → AHeap → Prop), SlX h 6 x (L.map Lot.cs) R → L.length ≤ 100000000 → Q (.int .i64 (lotOn L day)) h → C (N 152) [x, .int .i64 day] h Q
theorem lot_On.spec (i : lot_On.Imp C N) (s1 : lot_some_api_Lot.Spec C N) (s2 : lot_Right.Spec C N) (s3 : window_Has.Spec C N) : lot_On.Spec C N := by
  intro x L R day h Q hx hlen hq
  apply i
  simp -dsimp
  refine s1 _ _ lotRight _ _ _ _ hx hlen (fun l h' K hh hk => ?_) fun y h2 o2 => ?_
  · simp -dsimp
    exact s2 _ _ _ hk
  have hy := o2.slAt 0 rfl
  have e1 := hy.lenSl
  rw [List.length_map] at e1
  unfold lotOn at hq
  have hfl := List.length_filter_le lotRight L
  generalize L.filter lotRight = M at *
  simp -dsimp [e1]
  refine LoopR.intro (fun t vs hh => hh = h2 ∧ ∃ (k : Nat), k + t = M.length ∧ vs = [.int .i64 ((M.take k).foldl (onStep day) 0), .int .i64 (k : Int)]) M.length ?_ ⟨rfl, 0, by simp, rfl⟩
  rintro Y t vs hh ⟨rfl, k, ht, rfl⟩ hY
  simp -dsimp
  refine B.cond_bool (fun hb => ?_) (fun hb => ?_) <;> simp -dsimp at hb ⊢
  · have hg : (M.map Lot.cs)[k]? = some (M[k]).cs := by rw [List.getElem?_map, List.getElem?_eq_getElem hb]; rfl
    have hel := hy.elem hg
    have hidx := hy.idxN (k := .i64) (i := k) (by simpa using hb)
    have htk : (M.take (k + 1)).foldl (onStep day) 0 = onStep day ((M.take k).foldl (onStep day) 0) M[k] := by
      rw [List.take_add_one, List.getElem?_eq_getElem hb, Option.toList_some, List.foldl_append]; rfl
    simp -dsimp [hidx, hel]
    refine s3 _ _ _ _ _ ?_
    refine B.cond_bool (fun hc => ?_) (fun hc => ?_)
    · simp -dsimp [inc64 (n := k) (by omega)]
      refine hY (M.length - (k + 1)) _ _ (by omega) ⟨rfl, k + 1, by omega, ?_⟩
      rw [htk, onStep, if_pos hc]; simp
    · simp -dsimp [inc64 (n := k) (by omega)]
      refine hY (M.length - (k + 1)) _ _ (by omega) ⟨rfl, k + 1, by omega, ?_⟩
      rw [htk, onStep, if_neg (by rw [hc]; simp)]; simp
  · rw [List.take_of_length_le (by omega)]
    exact dn_le o2.le hq

/-! The document's order. -/
end Go.Ab

/- What is proved: contracts of what the statements share about lists of plain things: marks, the same, lent, kept, written over, copied, apart. No conditions. Printed by a program of mine. -/
set_option linter.unusedVariables false
set_option linter.unusedSimpArgs false
set_option maxRecDepth 100000
namespace Go.Ab
variable {C : CSem} {N : Nat → Nat}

/-- A list of lists: x, of n, these xs; what they hold, and behind. -/
structure LL where
  x : AVal
  n : Nat
  xs : Nat → AVal
  D : Nat → List (List AVal)
  R : Nat → List (List AVal)
  W : List (List AVal)
structure LL.ok (t : LL) (h0 : AHeap) : Prop where
  is : SlX h0 1 t.x (fills t.n fun j => [t.xs j]) t.W
  n_le : t.n ≤ 100000000
  len_le : ∀ j, j < t.n → (t.D j).length ≤ 100000000
def kit_SameLots.Spec (C : CSem) (N : Nat → Nat) : Prop := ∀ (x y : AVal) (L M : List Lot) (R S : List (List AVal)) (h : AHeap) (Q : AVal → AHeap → Prop), SlX h 6 x (L.map Lot.cs) R → SlX h 6 y (M.map Lot.cs) S → L.length < 4611686018427387904 →
  Q (.bool (decide (L = M))) h → C (N 74) [x, y] h Q
theorem kit_SameLots.spec (i : kit_SameLots.Imp C N) : kit_SameLots.Spec C N := fun x y L M R S h Q hx hy hlen hq =>
  i x y h Q (sameG_spec lotF hx hy hlen (dn_same hq))

end Go.Ab
