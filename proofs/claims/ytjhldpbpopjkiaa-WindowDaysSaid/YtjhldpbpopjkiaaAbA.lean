/- What is proved: the base of an abstract memory: abstract values, blocks and how they stand to the model's values and world. No conditions. -/
import Derived.Calls
import Derived.Orders
import Derived.Below
namespace Go.Ab
open Go.RowKit (Below)

/-- Abstract values: like the model's, but memory is told by block, generation, place. -/
inductive AVal where
  | undef
  | bool (b : Bool)
  | int (k : IntKind) (n : Int)
  | str (s : List UInt8)
  | nilp
  | ptr (id gen off : Nat)
  | nils
  | sz
  | sl (id gen off len es cp : Nat)
  | nilf
  | fn (f : Nat) (first caps : List AVal)
  | agg (cs : List AVal)
  | tup (vs : List AVal)
  deriving Inhabited

structure Loc where
  blk : Nat
  base : Nat
  lo : Nat
  size : Nat

abbrev Locs := Nat → Nat → Option Loc

mutual
def VRel (ρ : Locs) : AVal → Value → Prop
  | .undef, _ => True
  | .bool b, v => v = .bool b
  | .int k n, v => v = .int k n
  | .str s, v => ∃ b : ByteArray, v = .string b ∧ b.data.toList = s
  | .nilp, v => v = .pointer none
  | .ptr id g off, v => ∃ L, ρ id g = some L ∧ L.lo ≤ off ∧ v = .pointer (some ⟨L.blk, L.base + (off - L.lo), none⟩)
  | .nils, v => v = .slice none 0 0
  | .sz, v => ∃ a, v = .slice (some a) 0 0
  | .sl id g off len es cp, v => ∃ L, ρ id g = some L ∧ L.lo ≤ off ∧ ((∃ cap, v = .slice (some ⟨L.blk, L.base + (off - L.lo), none⟩) len cap ∧
      len ≤ cap ∧ L.base + (off - L.lo) + cap * es ≤ L.size ∧ cap ≤ maxLen ∧ cp ≤ cap) ∨ (len = 0 ∧ cp = 0 ∧ ∃ a, v = .slice (some a) 0 0))
  | .nilf, v => v = .nilFunc
  | .fn f first caps, v => ∃ l l', v = .func (.func f) (List.toArray l) (List.toArray l') ∧ VRels ρ first l ∧ VRels ρ caps l'
  | .agg cs, v => ∃ l : List Value, v = .agg l.toArray ∧ VRels ρ cs l ∧ ∀ u ∈ l, u.oneCell' = true
  | .tup vs, v => ∃ l : List Value, v = .tuple l.toArray ∧ VRels ρ vs l
def VRels (ρ : Locs) : List AVal → List Value → Prop
  | [], l => l = []
  | a :: as, l => ∃ u us, l = u :: us ∧ VRel ρ a u ∧ VRels ρ as us
end

def Locs.le (ρ ρ' : Locs) : Prop := ∀ i g L, ρ i g = some L → ρ' i g = some L
theorem Locs.le_refl (ρ : Locs) : ρ.le ρ := fun _ _ _ h => h
theorem Locs.le_trans {a b c : Locs} (h : a.le b) (k : b.le c) : a.le c := fun i g L e => k i g L (h i g L e)

mutual
theorem VRel.mono {ρ ρ' : Locs} (h : ρ.le ρ') : ∀ (a : AVal) (v : Value), VRel ρ a v → VRel ρ' a v
  | .undef, _, _ => trivial
  | .bool _, _, e => e
  | .int _ _, _, e => e
  | .str _, _, e => e
  | .nilp, _, e => e
  | .ptr _ _ _, _, ⟨L, h1, h2⟩ => ⟨L, h _ _ _ h1, h2⟩
  | .nils, _, e => e
  | .sz, _, e => e
  | .sl _ _ _ _ _ _, _, ⟨L, h1, h2⟩ => ⟨L, h _ _ _ h1, h2⟩
  | .nilf, _, e => e
  | .fn _ first caps, _, ⟨l, l', e, h1, h2⟩ => ⟨l, l', e, VRels.mono h first l h1, VRels.mono h caps l' h2⟩
  | .agg cs, _, ⟨l, e, h1, h2⟩ => ⟨l, e, VRels.mono h cs l h1, h2⟩
  | .tup vs, _, ⟨l, e, h1⟩ => ⟨l, e, VRels.mono h vs l h1⟩
theorem VRels.mono {ρ ρ' : Locs} (h : ρ.le ρ') : ∀ (as : List AVal) (l : List Value), VRels ρ as l → VRels ρ' as l
  | [], _, e => e
  | a :: as, _, ⟨u, us, e, h1, h2⟩ => ⟨u, us, e, VRel.mono h a u h1, VRels.mono h as us h2⟩
end

theorem VRels.length {ρ : Locs} : ∀ {as : List AVal} {l : List Value}, VRels ρ as l → as.length = l.length
  | [], _, e => by subst e; rfl
  | a :: as, _, ⟨u, us, e, _, h2⟩ => by subst e; simp [VRels.length h2]

theorem VRels.get {ρ : Locs} : ∀ {as : List AVal} {l : List Value}, VRels ρ as l → ∀ {i : Nat} {a : AVal}, as[i]? = some a → ∃ u : Value, l[i]? = some u ∧ VRel ρ a u
  | [], _, _, i, a, h => by simp at h
  | x :: xs, _, ⟨u, us, e, h1, h2⟩, i, a, h => by
    subst e
    cases i with
    | zero => simp at h; subst h; exact ⟨u, by simp, h1⟩
    | succ i => simp at h; obtain ⟨u', hu, hr⟩ := VRels.get h2 h; exact ⟨u', by simpa using hu, hr⟩

theorem VRels.of_get {ρ : Locs} : ∀ {as : List AVal} {l : List Value}, as.length = l.length →
    (∀ (i : Nat) (a : AVal) (u : Value), as[i]? = some a → l[i]? = some u → VRel ρ a u) → VRels ρ as l
  | [], l, h, _ => by
    cases l with
    | nil => rfl
    | cons _ _ => simp at h
  | x :: xs, l, h, k => by
    cases l with
    | nil => simp at h
    | cons u us => exact ⟨u, us, rfl, k 0 x u (by simp) (by simp), VRels.of_get (by simpa using h) fun i a v ha hv => k (i + 1) a v (by simpa using ha) (by simpa using hv)⟩

theorem VRels.append {ρ : Locs} : ∀ {as bs : List AVal} {l m : List Value}, VRels ρ as l → VRels ρ bs m → VRels ρ (as ++ bs) (l ++ m)
  | [], _, _, _, e, h => by subst e; exact h
  | _ :: _, _, _, _, ⟨u, us, e, h1, h2⟩, h => by subst e; exact ⟨u, us ++ _, rfl, h1, VRels.append h2 h⟩

/-- A block of the abstract memory: its cells; which generations reach how far; the next generation; may it be written? -/
inductive AObj where
  | iter (s : List UInt8) (pos : Nat)
  | map (es : List (AVal × AVal))

structure Blk where
  cells : List AVal
  gens : List (Nat × Nat)
  next : Nat
  own : Bool
  obj : Option AObj

/-- An abstract memory: finitely many blocks. -/
def AHeap := { f : Nat → Option Blk // ∃ N, ∀ i, N ≤ i → f i = none }
instance : CoeFun AHeap (fun _ => Nat → Option Blk) := ⟨Subtype.val⟩
theorem AHeap.ext {h H : AHeap} (e : ∀ i, h i = H i) : h = H := Subtype.ext (funext e)
theorem AHeap.fresh (h : AHeap) : ∃ id, h id = none := by
  obtain ⟨N, k⟩ := h.2
  exact ⟨N, k N (Nat.le_refl N)⟩
def AHeap.empty : AHeap := ⟨fun _ => none, 0, fun _ _ => rfl⟩

def blkOf (cs : List AVal) : Blk := { cells := cs, gens := [(0, cs.length)], next := 1, own := true, obj := none }
def objOf (o : AObj) : Blk := { cells := [], gens := [], next := 1, own := true, obj := some o }
def upd (h : AHeap) (id : Nat) (b : Blk) : AHeap := ⟨fun i => bif Nat.beq i id then some b else h i, by
  obtain ⟨N, k⟩ := h.2
  refine ⟨max N (id + 1), fun i hi => ?_⟩
  have : Nat.beq i id = false := by rw [← Bool.not_eq_true, Nat.beq_eq]; omega
  show (bif Nat.beq i id then some b else h i) = none
  rw [this]
  exact k i (by omega)⟩
def AHeap.le (h H : AHeap) : Prop := ∀ i b, h i = some b → H i = some b

theorem upd_same (h : AHeap) (id : Nat) (b : Blk) : upd h id b id = some b := by simp [upd]
theorem upd_other (h : AHeap) {id i : Nat} (b : Blk) (hne : i ≠ id) : upd h id b i = h i := by
  have : Nat.beq i id = false := by rw [← Bool.not_eq_true, Nat.beq_eq]; exact hne
  simp [upd, this]
theorem AHeap.le_refl (h : AHeap) : h.le h := fun _ _ e => e
theorem AHeap.le_trans {a b c : AHeap} (h : a.le b) (k : b.le c) : a.le c := fun i x e => k i x (h i x e)
theorem le_upd {h : AHeap} {id : Nat} (b : Blk) (hf : h id = none) : h.le (upd h id b) := fun i x e => by
  have : i ≠ id := fun hi => by subst hi; rw [hf] at e; cases e
  rw [upd_other h b this]; exact e
theorem upd_le {h H : AHeap} {id : Nat} (b : Blk) (hle : h.le H) : (upd h id b).le (upd H id b) := fun i x e => by
  by_cases hi : i = id
  · subst hi; rw [upd_same] at *; exact e
  · rw [upd_other _ _ hi] at *; exact hle i x e
theorem upd_comm (h : AHeap) {i j : Nat} (a b : Blk) (hne : i ≠ j) : upd (upd h i a) j b = upd (upd h j b) i a := by
  apply AHeap.ext; intro k
  by_cases hi : k = i
  · subst hi; rw [upd_other _ _ hne, upd_same, upd_same]
  · by_cases hj : k = j
    · subst hj; rw [upd_same, upd_other _ _ hi, upd_same]
    · rw [upd_other _ _ hj, upd_other _ _ hi, upd_other _ _ hi, upd_other _ _ hj]
theorem upd_upd (h : AHeap) (i : Nat) (a b : Blk) : upd (upd h i a) i b = upd h i b := by
  apply AHeap.ext; intro k
  by_cases hi : k = i
  · subst hi; rw [upd_same, upd_same]
  · rw [upd_other _ _ hi, upd_other _ _ hi, upd_other _ _ hi]

/-- No cell of the block is frozen. -/
def frOk (fr : Nat × Nat) (size : Nat) : Prop := fr.2 ≤ fr.1 ∨ size ≤ fr.1

def ObjRel (ρ : Locs) : AObj → Obj → Prop
  | .iter s pos, o => ∃ b, o = .stringIter b pos ∧ b.data.toList = s
  | .map es, o => ∃ ms clock, o = .map ms clock ∧ VRels ρ (es.map (·.1)) (ms.toList.map (·.key)) ∧ VRels ρ (es.map (·.2)) (ms.toList.map (·.val)) ∧ (∀ m ∈ ms.toList, m.born < clock) ∧ (ms.toList.map (·.born)).Pairwise (· ≠ ·)

structure BlkOk (B : Nat) (ρ : Locs) (w : World) (id : Nat) (b : Blk) : Prop where
  nxt : ∀ g, b.next ≤ g → ρ id g = none
  gen : ∀ g hi, (g, hi) ∈ b.gens → hi ≤ b.cells.length ∧ ∃ L arr e fr, ρ id g = some L ∧ w.heap[L.blk]? = some (.cells arr e fr) ∧ arr.size = L.size ∧
    L.base + (hi - L.lo) ≤ L.size ∧ (b.own = true → B ≤ L.blk ∧ frOk fr L.size) ∧
    ∀ j, L.lo ≤ j → j < hi → ∀ a, b.cells[j]? = some a → ∃ u, arr[L.base + (j - L.lo)]? = some u ∧ VRel ρ a u ∧ u.oneCell' = true
  align : ∀ g hi g' hi', (g, hi) ∈ b.gens → (g', hi') ∈ b.gens → ∀ L L', ρ id g = some L → ρ id g' = some L' → L.blk = L'.blk → L.base + L'.lo = L'.base + L.lo
  obj : ∀ o, b.obj = some o → b.gens = [] ∧ ∃ L ob, ρ id 0 = some L ∧ L.base = 0 ∧ L.lo = 0 ∧ B ≤ L.blk ∧ w.heap[L.blk]? = some ob ∧ ObjRel ρ o ob

/-- How an abstract memory stands to a world: 'w0' is the world when all began. -/
structure R (w0 : World) (ρ : Locs) (H : AHeap) (w : World) : Prop where
  below : Below w0.heap.size w0 w
  fin : ∃ N, ∀ i, N ≤ i → H i = none ∧ ∀ g, ρ i g = none
  blk : ∀ id b, H id = some b → BlkOk w0.heap.size ρ w id b
  sep : ∀ i j bi bj, i ≠ j → H i = some bi → H j = some bj → bi.own = true → ∀ gi ∈ bi.gens, ∀ gj ∈ bj.gens, ∀ Li Lj, ρ i gi.1 = some Li → ρ j gj.1 = some Lj → Li.blk ≠ Lj.blk
  osep : ∀ i j bi bj, i ≠ j → H i = some bi → H j = some bj → bi.obj.isSome = true → bj.obj.isSome = true → ∀ Li Lj, ρ i 0 = some Li → ρ j 0 = some Lj → Li.blk ≠ Lj.blk

theorem ObjRel.mono {ρ ρ' : Locs} (h : ρ.le ρ') : ∀ {o : AObj} {ob : Obj}, ObjRel ρ o ob → ObjRel ρ' o ob
  | .iter _ _, _, e => e
  | .map _, _, ⟨ms, c, e, h1, h2, h3⟩ => ⟨ms, c, e, VRels.mono h _ _ h1, VRels.mono h _ _ h2, h3⟩

theorem ObjRel.notCells {ρ : Locs} : ∀ {o : AObj} {ob : Obj}, ObjRel ρ o ob → ∀ arr e fr, ob ≠ .cells arr e fr
  | .iter _ _, _, ⟨_, e, _⟩, _, _, _ => by rw [e]; simp
  | .map _, _, ⟨_, _, e, _⟩, _, _, _ => by rw [e]; simp

theorem R.drop {w0 : World} {ρ : Locs} {H H' : AHeap} {w : World} (h : R w0 ρ H w) (hle : H'.le H) : R w0 ρ H' w where
  below := h.below
  fin := by
    obtain ⟨N, k⟩ := h.fin
    refine ⟨N, fun i hi => ⟨?_, (k i hi).2⟩⟩
    cases e : H' i with
    | none => rfl
    | some b => have := hle i b e; rw [(k i hi).1] at this; cases this
  blk := fun id b e => h.blk id b (hle id b e)
  sep := fun i j bi bj hne hi hj => h.sep i j bi bj hne (hle i bi hi) (hle j bj hj)
  osep := fun i j bi bj hne hi hj => h.osep i j bi bj hne (hle i bi hi) (hle j bj hj)

/-- A draw. -/
theorem R.drew {w0 : World} {ρ : Locs} {H : AHeap} {w : World} (h : R w0 ρ H w) (n : Nat) : R w0 ρ H { w with drawn := n } where
  below := h.below.trans ⟨rfl, rfl, rfl, Nat.le_refl _, fun _ _ => rfl⟩
  fin := h.fin
  blk := fun id b e => let k := h.blk id b e; ⟨k.nxt, k.gen, k.align, k.obj⟩
  sep := h.sep
  osep := h.osep

def Locs.put (ρ : Locs) (id g : Nat) (L : Loc) : Locs := fun i k => if i = id ∧ k = g then some L else ρ i k
theorem Locs.put_same (ρ : Locs) (id g : Nat) (L : Loc) : ρ.put id g L id g = some L := by simp [Locs.put]
theorem Locs.put_other (ρ : Locs) {id g i k : Nat} (L : Loc) (h : ¬(i = id ∧ k = g)) : ρ.put id g L i k = ρ i k := by simp [Locs.put, h]
theorem Locs.le_put {ρ : Locs} {id g : Nat} (L : Loc) (h : ρ id g = none) : ρ.le (ρ.put id g L) := fun i k X e => by
  rw [Locs.put_other]
  · exact e
  · rintro ⟨rfl, rfl⟩; rw [h] at e; cases e

/-- A new block of the call's own. -/
theorem R.new {w0 : World} {ρ : Locs} {H : AHeap} {w : World} (h : R w0 ρ H w) {id : Nat} (hid : H id = none) (hρ : ∀ g, ρ id g = none)
    (cs : List AVal) (arr : Array Value) (e : TypeId) (fr : Nat × Nat) (hfr : frOk fr arr.size) (hl : cs.length ≤ arr.size)
    (hc : ∀ (j : Nat) (a : AVal), cs[j]? = some a → ∃ u, arr[j]? = some u ∧ VRel ρ a u ∧ u.oneCell' = true) :
    R w0 (ρ.put id 0 ⟨w.heap.size, 0, 0, arr.size⟩) (upd H id (blkOf cs)) { w with heap := w.heap.push (.cells arr e fr) } := by
  have hle : ρ.le (ρ.put id 0 ⟨w.heap.size, 0, 0, arr.size⟩) := Locs.le_put _ (hρ 0)
  have hold : ∀ k o, w.heap[k]? = some o → (w.heap.push (.cells arr e fr))[k]? = some o := fun k o hk => by
    rw [Array.getElem?_push]
    have : k < w.heap.size := (Array.getElem?_eq_some_iff.1 hk).1
    rw [if_neg (by omega)]; exact hk
  have hsz := h.below.size
  constructor
  · exact h.below.trans ⟨rfl, rfl, rfl, by simp, fun k hk => by
      show (w.heap.push _)[k]? = _
      rw [Array.getElem?_push, if_neg (by omega)]⟩
  · obtain ⟨N, k⟩ := h.fin
    refine ⟨max N (id + 1), fun i hi => ⟨?_, fun g => ?_⟩⟩
    · rw [upd_other _ _ (by omega)]; exact (k i (by omega)).1
    · rw [Locs.put_other _ _ (by omega)]; exact (k i (by omega)).2 g
  · intro i b hb
    by_cases hi : i = id
    · subst hi
      rw [upd_same] at hb
      cases hb
      refine ⟨fun g hg => ?_, fun g hi hm => ?_, fun g hi g' hi' hm hm' L L' e1 e2 _ => ?_, fun o ho => by simp [blkOf] at ho⟩
      · rw [Locs.put_other]
        · exact hρ g
        · simp only [blkOf] at hg; omega
      · simp only [blkOf, List.mem_singleton, Prod.mk.injEq] at hm
        obtain ⟨rfl, rfl⟩ := hm
        refine ⟨Nat.le_refl _, ⟨w.heap.size, 0, 0, arr.size⟩, arr, e, fr, Locs.put_same .., ?_, rfl, by simpa using hl, fun _ => ⟨hsz, hfr⟩, ?_⟩
        · show (w.heap.push _)[w.heap.size]? = _
          simp
        · intro j _ hj a ha
          obtain ⟨u, h1, h2, h3⟩ := hc j a ha
          exact ⟨u, by simpa using h1, h2.mono hle, h3⟩
      · simp only [blkOf, List.mem_singleton, Prod.mk.injEq] at hm hm'
        obtain ⟨rfl, rfl⟩ := hm
        obtain ⟨rfl, rfl⟩ := hm'
        rw [e1] at e2
        cases e2; rfl
    · rw [upd_other _ _ hi] at hb
      have ok := h.blk i b hb
      refine ⟨fun g hg => ?_, fun g hi' hm => ?_, fun g hi' g' hi'' hm hm' L L' e1 e2 => ?_, fun o ho => ?_⟩
      · rw [Locs.put_other _ _ (by omega)]; exact ok.nxt g hg
      · obtain ⟨h0, L, arr', e', fr, h1, h2, h3, h4, h5, h6⟩ := ok.gen g hi' hm
        refine ⟨h0, L, arr', e', fr, hle _ _ _ h1, hold _ _ h2, h3, h4, h5, fun j hj1 hj2 a ha => ?_⟩
        obtain ⟨u, k1, k2, k3⟩ := h6 j hj1 hj2 a ha
        exact ⟨u, k1, k2.mono hle, k3⟩
      · rw [Locs.put_other _ _ (by omega)] at e1 e2
        exact ok.align g hi' g' hi'' hm hm' L L' e1 e2
      · obtain ⟨h0, L, ob, h1, h2, h3, h4, h5, h6⟩ := ok.obj o ho
        exact ⟨h0, L, ob, hle _ _ _ h1, h2, h3, h4, hold _ _ h5, h6.mono hle⟩
  · -- apart
    have lt : ∀ j bj, H j = some bj → ∀ gj ∈ bj.gens, ∀ Lj, ρ j gj.1 = some Lj → Lj.blk < w.heap.size := fun j bj hj gj hg Lj hL => by
      obtain ⟨_, L, arr', e', fr, h1, h2, _⟩ := (h.blk j bj hj).gen gj.1 gj.2 hg
      rw [hL] at h1
      cases h1
      exact (Array.getElem?_eq_some_iff.1 h2).1
    intro i j bi bj hne hi hj hown gi hgi gj hgj Li Lj e1 e2
    by_cases h1 : i = id
    · subst h1
      rw [upd_same] at hi
      cases hi
      rw [upd_other _ _ (Ne.symm hne)] at hj
      simp only [blkOf, List.mem_singleton] at hgi
      subst hgi
      rw [Locs.put_same] at e1
      cases e1
      rw [Locs.put_other _ _ (by omega)] at e2
      have := lt j bj hj gj hgj Lj e2
      simp only
      omega
    · rw [upd_other _ _ h1] at hi
      rw [Locs.put_other _ _ (by omega)] at e1
      by_cases h2 : j = id
      · subst h2
        rw [upd_same] at hj
        cases hj
        simp only [blkOf, List.mem_singleton] at hgj
        subst hgj
        rw [Locs.put_same] at e2
        cases e2
        have := lt i bi hi gi hgi Li e1
        simp only
        omega
      · rw [upd_other _ _ h2] at hj
        rw [Locs.put_other _ _ (by omega)] at e2
        exact h.sep i j bi bj hne hi hj hown gi hgi gj hgj Li Lj e1 e2

  · intro i j bi bj hne hi hj oi oj Li Lj e1 e2
    have h1 : i ≠ id := fun hh => by subst hh; rw [upd_same] at hi; cases hi; simp [blkOf] at oi
    have h2 : j ≠ id := fun hh => by subst hh; rw [upd_same] at hj; cases hj; simp [blkOf] at oj
    rw [upd_other _ _ h1] at hi
    rw [upd_other _ _ h2] at hj
    rw [Locs.put_other _ _ (by omega)] at e1 e2
    exact h.osep i j bi bj hne hi hj oi oj Li Lj e1 e2

end Go.Ab
