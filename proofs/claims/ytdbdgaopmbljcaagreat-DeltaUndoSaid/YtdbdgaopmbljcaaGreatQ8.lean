/- What is proved: a part of the way to the statement; each part is headed by what it proves. No conditions. -/
import Derived.Test.YtdbdgaopmbljcaaGreatQ6
import Derived.Lib.Bytealg
import Derived.Test.YtdbdgaopmbljcaaGreatQ3
import Derived.Test.YtdbdgaopmbljcaaGreatQ7

/- What is proved: lists whose elements lead to lists of bytes: how they are read and owned; are they the same, lent, kept, copied. No conditions. -/
set_option linter.unusedVariables false
set_option linter.unusedSimpArgs false
namespace Go.Ab
variable {C : CSem} {N : Nat → Nat}
/-- How long any list may be. -/
def far : Nat := 140737488351232
/-- Bytes at a value. -/
def Bs (h : AHeap) (x : AVal) (b : List UInt8) : Prop := (∃ R, SlX h 1 x (b.map bc) R) ∧ b.length ≤ far
section
variable {h h' : AHeap} {x : AVal} {b : List UInt8}
theorem Bs.mono (hb : Bs h x b) (hle : h.le h') : Bs h' x b := ⟨hb.1.imp fun _ r => r.mono hle, hb.2⟩
theorem Bs.lenSl (hb : Bs h x b) : V.lenSl x = some (.int .i64 b.length) := by
  obtain ⟨⟨R, r⟩, _⟩ := hb
  simpa using r.lenSl
theorem Bs.isCell (hb : Bs h x b) : x.isCell = true := hb.1.elim fun _ r => r.isCell
theorem Bs.nils (h : AHeap) : Bs h .nils [] := ⟨⟨[], SlX.nils h 1⟩, Nat.zero_le _⟩
end
theorem SlX.cutR {h : AHeap} {es : Nat} {x : AVal} {L R S : List (List AVal)} (hs : SlX h es x L (R ++ S)) : SlX h es x L R := by
  refine ⟨fun p hp => hs.len p (by rcases List.mem_append.1 hp with h | h; exact List.mem_append_left _ h; exact List.mem_append_right _ (List.mem_append_left _ h)), ?_⟩
  rcases hs.at_ with ⟨e, e2, e'⟩ | ⟨id, g, off, cp, b, hi, h1, h1', h2, h3, h4, hh, h5⟩
  · exact .inl ⟨e, (List.append_eq_nil_iff.1 e2).1, e'⟩
  · have hl : ∀ p ∈ L ++ R, p.length = es := fun p hp => hs.len p (by rcases List.mem_append.1 hp with h | h; exact List.mem_append_left _ h; exact List.mem_append_right _ (List.mem_append_left _ h))
    have hfl := flat_len hl
    rw [List.length_append] at h1' h4 h5 hfl
    have hm : (L.length + R.length) * es ≤ (L.length + (R.length + S.length)) * es := Nat.mul_le_mul_right _ (by omega)
    refine .inr ⟨id, g, off, cp, b, hi, h1, by omega, h2, h3, by omega, hh, ?_⟩
    have : ((b.cells.drop off).take ((L.length + (R.length + S.length)) * es)).take ((L.length + R.length) * es) = (L ++ R).flatten := by
      rw [h5, ← List.append_assoc, List.flatten_append (L₁ := L ++ R), List.take_append_of_le_length (by omega), List.take_of_length_le (by omega)]
    rw [← this, List.take_take, Nat.min_eq_left hm]
abbrev AllAt (h : AHeap) (l : List Ob) : Prop := ∀ o ∈ l, o.at h
theorem AllAt.mono {h h' : AHeap} {l : List Ob} (ha : AllAt h l) (hle : h.le h') : AllAt h' l := fun o hm => (ha o hm).keep fun _ _ _ e => hle _ _ e
/-- Ad kind of elements: values T, what leads to their bytes A. -/
structure DK (T Ad : Type) where
  n : Nat
  bytes : Nat
  z : List AVal
  pos : 0 < n
  small : bytes ≤ 1000
  zlen : z.length = n
  cells : Ad → List AVal
  len : ∀ a, (cells a).length = n
  at_ : AHeap → T → Ad → Prop
  mono : ∀ {h h' : AHeap} {t : T} {a : Ad}, h.le h' → at_ h t a → at_ h' t a
  ok : T → Prop
  at_ok : ∀ {h : AHeap} {t : T} {a : Ad}, at_ h t a → ok t
  obs : Bool → T → Ad → List Ob
  ofObs : ∀ {b : Bool} {h : AHeap} {t : T} {a : Ad}, ok t → AllAt h (obs b t a) → at_ h t a
section
variable {T Ad : Type} (K : DK T Ad)
abbrev DK.cs (p : T × Ad) : List AVal := K.cells p.2
def DK.os (b : Bool) (P : List (T × Ad)) : List Ob := P.flatMap fun p => K.obs b p.1 p.2
/-- Ad list that is read so. -/
def Dl (h : AHeap) (x : AVal) (L : List T) : Prop := ∃ (P : List (T × Ad)) (R : List (List AVal)), P.map (·.1) = L ∧ SlX h K.n x (P.map K.cs) R ∧ ∀ p ∈ P, K.at_ h p.1 p.2
/-- An element. -/
structure DEl (h : AHeap) (x : AVal) (i : Nat) (t : T) (a : Ad) : Prop where
  idx : V.idxS K.n x (.int .i64 (i : Int)) = some (elp K.n x i 0)
  ldn : A.ldnv h (elp K.n x i 0) K.n = some (.agg (K.cells a))
  fld : ∀ f o, V.fieldAddr o (elp K.n x i f) = some (elp K.n x i (f + o))
  ld : ∀ f, f < K.n → A.ldv h (elp K.n x i f) = (K.cells a)[f]?
  at_ : K.at_ h t a
variable {K} {h h' h0 : AHeap} {x : AVal} {L M : List T}
theorem DEl.mono {i : Nat} {t : T} {a : Ad} (hx : ∃ L R, SlX h K.n x L R ∧ L[i]? = some (K.cells a)) (hd : DEl K h x i t a) (hle : h.le h') : DEl K h' x i t a := by
  obtain ⟨L, R, s, hi⟩ := hx
  have s' := s.mono hle
  exact ⟨hd.idx, s'.elem hi, hd.fld, fun f hf => s'.ldv hi hf, K.mono hle hd.at_⟩
theorem slX_el {h : AHeap} {x : AVal} {P : List (T × Ad)} {R : List (List AVal)} (s : SlX h K.n x (P.map K.cs) R) (ha : ∀ p ∈ P, K.at_ h p.1 p.2) {i : Nat} {p : T × Ad} (hi : P[i]? = some p) : DEl K h x i p.1 p.2 := by
  have hc : (P.map K.cs)[i]? = some (K.cells p.2) := by rw [List.getElem?_map, hi]; rfl
  have hl : i < (P.map K.cs).length := (List.getElem?_eq_some_iff.1 hc).1
  exact ⟨s.idxN hl, s.elem hc, fun f o => s.fieldA hl f o, fun f hf => s.ldv hc hf, ha p (List.mem_of_getElem? hi)⟩
theorem Dl.get (hd : Dl K h x L) {i : Nat} {t : T} (hi : L[i]? = some t) : ∃ a, DEl K h x i t a := by
  obtain ⟨P, R, rfl, s, ha⟩ := hd
  rw [List.getElem?_map] at hi
  obtain ⟨p, hp, rfl⟩ := Option.map_eq_some_iff.1 hi
  exact ⟨p.2, slX_el s ha hp⟩
theorem Dl.mono (hd : Dl K h x L) (hle : h.le h') : Dl K h' x L := by
  obtain ⟨P, R, e, s, ha⟩ := hd
  exact ⟨P, R, e, s.mono hle, fun p hp => K.mono hle (ha p hp)⟩
theorem Dl.lenSl (hd : Dl K h x L) : V.lenSl x = some (.int .i64 L.length) := by
  obtain ⟨P, R, rfl, s, ha⟩ := hd
  simpa using s.lenSl
theorem Dl.isCell (hd : Dl K h x L) : x.isCell = true := by
  obtain ⟨P, R, rfl, s, ha⟩ := hd
  exact s.isCell
theorem Dl.nils (K : DK T Ad) (h : AHeap) : Dl K h .nils [] := ⟨[], [], rfl, SlX.nils h K.n, fun _ h => by cases h⟩
theorem Dl.sz (K : DK T Ad) (h : AHeap) : Dl K h .sz [] := ⟨[], [], rfl, SlX.sz h K.n, fun _ h => by cases h⟩
theorem Dl.tail {t : T} (hd : Dl K h x (t :: L)) : ∃ y, V.cutSl K.n x (some (.int .i64 1)) none = some y ∧ Dl K h y L := by
  obtain ⟨P, R, e, s, ha⟩ := hd
  cases P with
  | nil => cases e
  | cons p P =>
    simp only [List.map_cons, List.cons.injEq] at e
    obtain ⟨y, e1, e2, e3⟩ := s.slice K.pos (lo := 1) (hi := (p :: P).length) (a := some (.int .i64 1)) (b := none) (.inr ⟨_, rfl⟩) (.inl ⟨rfl, by simp⟩) (by simp) (by simp)
    have h1 : (((p :: P).map K.cs ++ R).take (p :: P).length).drop 1 = P.map K.cs := by
      rw [List.take_append_of_le_length (by simp), List.take_of_length_le (by simp)]; rfl
    rw [h1] at e2
    exact ⟨y, e1, P, _, e.2, e2, fun q hq => ha q (List.mem_cons_of_mem _ hq)⟩
theorem Dl.ok (hd : Dl K h x L) : ∀ t ∈ L, K.ok t := by
  obtain ⟨P, R, rfl, s, ha⟩ := hd
  intro t ht
  obtain ⟨p, hp, rfl⟩ := List.mem_map.1 ht
  exact K.at_ok (ha p hp)
theorem dl_of {P : List (T × Ad)} {R : List (List AVal)} {b : Bool} {l : List Ob} (hok : ∀ p ∈ P, K.ok p.1) (hl : AllAt h l) (h1 : .sl K.n x (P.map K.cs) R ∈ l) (h2 : ∀ o ∈ K.os b P, o ∈ l) : Dl K h x (P.map (·.1)) :=
  ⟨P, R, rfl, hl _ h1, fun p hp => K.ofObs (hok p hp) fun o ho => hl o (h2 o (List.mem_flatMap.2 ⟨p, hp, ho⟩))⟩
theorem DK.os_append (b : Bool) (P P' : List (T × Ad)) : K.os b (P ++ P') = K.os b P ++ K.os b P' := List.flatMap_append
theorem DK.os_one (b : Bool) (p : T × Ad) : K.os b [p] = K.obs b p.1 p.2 := by simp [DK.os]
/-- Ad list of one's own, with all that it leads to. -/
abbrev Df (K : DK T Ad) (h0 h : AHeap) (x : AVal) (P : List (T × Ad)) : Prop := Owns h0 h (.sl K.n x (P.map K.cs) [] :: K.os false P)
theorem Df.dl {P : List (T × Ad)} (hd : Df K h0 h x P) (hok : ∀ p ∈ P, K.ok p.1) : Dl K h x (P.map (·.1)) := dl_of (b := false) hok hd.is (List.mem_cons_self ..) fun o ho => List.mem_cons_of_mem _ ho

/-! What the statements share. -/
def SameE (K : DK T Ad) [DecidableEq T] (C : CSem) (f : Nat) : Prop := ∀ (t u : T) (a b : Ad) (h : AHeap) (Q : AVal → AHeap → Prop), K.at_ h t a → K.at_ h u b → Q (.bool (decide (t = u))) h → C f [.agg (K.cells a), .agg (K.cells b)] h Q
def OneE (K : DK T Ad) (b : Bool) (C : CSem) (f : Nat) : Prop := ∀ (t : T) (a : Ad) (h : AHeap) (Q : AVal → AHeap → Prop), K.at_ h t a → (∀ a' h', Owns h h' (K.obs b t a') → Q (.agg (K.cells a')) h') → C f [.agg (K.cells a)] h Q
def MarkE (K : DK T Ad) (mk : Int → Int → T) (C : CSem) (f : Nat) : Prop := ∀ (k i : Int) (h : AHeap) (Q : AVal → AHeap → Prop), (∀ a' h', Owns h h' (K.obs false (mk k i) a') → Q (.agg (K.cells a')) h') → C f [.int .i64 k, .int .i64 i] h Q
theorem fill_agg (K : DK T Ad) (a : Ad) : fillL [(0, some K.n, .agg (K.cells a))] (repL 1 K.z) = some (K.cells a) := by
  have hrep : repL 1 K.z = K.z := by unfold repL; split <;> simp_all
  have h1 := K.len a
  rw [hrep]
  simp [h1, K.zlen]

@[simp] def sameD.k1 (C : CSem) (n f : Nat) (Q : AVal → AHeap → Prop) (Y1 : List AVal → AHeap → Prop) (v0 v1 v5 : AVal) (h : AHeap) : Prop :=
  B.pv (V.lenSl v0) fun v13 =>
    B.pv (V.bin .lss v5 v13) fun v14 =>
    B.cond v14
    (B.pv (V.idxS n v0 v5) fun v19 =>
    B.ldn h v19 n fun v20 =>
    B.pv (V.idxS n v1 v5) fun v23 =>
    B.ldn h v23 n fun v24 =>
    B.call C f [v20, v24] h fun v25 h =>
    B.pv (V.un .not v25) fun v26 =>
    B.cond v26
    (Q (.bool false) h)
    (B.pv (V.bin .add v5 (.int .i64 1)) fun v16 =>
    Y1 [v16] h))
    (Q (.bool true) h)
@[simp] def sameD.l2 (C : CSem) (n f : Nat) (Q : AVal → AHeap → Prop) (v0 v1 : AVal) : List AVal → AHeap → (List AVal → AHeap → Prop) → Prop
  | [v5], h, Y1 => sameD.k1 C n f Q Y1 v0 v1 v5 h
  | _, _, _ => False
def sameD (C : CSem) (n f : Nat) (v0 v1 : AVal) (h : AHeap) (Q : AVal → AHeap → Prop) : Prop :=
  B.pv (V.lenSl v0) fun v7 =>
    B.pv (V.lenSl v1) fun v9 =>
    B.pv (V.bin .neq v7 v9) fun v10 =>
    B.cond v10
    (Q (.bool false) h)
    (LoopR (sameD.l2 C n f Q v0 v1) [(.int .i64 0)] h)
theorem sameD_spec [DecidableEq T] {f : Nat} (sf : SameE K C f) {y : AVal} {Q : AVal → AHeap → Prop} (hx : Dl K h x L) (hy : Dl K h y M) (hlen : L.length < 4611686018427387904) (hq : Q (.bool (decide (L = M))) h) : sameD C K.n f x y h Q := by
  have hlx := hx.lenSl
  have hly := hy.lenSl
  simp -dsimp [sameD, hlx, hly]
  refine B.cond_bool (fun hb => ?_) (fun hb => ?_) <;> simp -dsimp at hb ⊢
  · rw [decide_eq_false fun e => hb (by rw [e])] at hq
    exact hq
  · refine LoopR.intro (fun n vs hh => ∃ k, k + n = L.length ∧ vs = [.int .i64 k] ∧ hh = h ∧ L.take k = M.take k) L.length ?_ ⟨0, by simp, by simp, rfl, by simp⟩
    rintro Y n vs _ ⟨k, hn, rfl, rfl, he⟩ hY
    simp -dsimp [hlx]
    refine B.cond_bool (fun hc => ?_) (fun hc => ?_) <;> simp -dsimp at hc ⊢
    · obtain ⟨w, hw⟩ := get_lt hc
      obtain ⟨u, hu⟩ := get_lt (L := M) (k := k) (by omega)
      obtain ⟨a, ea⟩ := hx.get hw
      obtain ⟨b, eb⟩ := hy.get hu
      simp -dsimp only [ea.idx, ea.ldn, eb.idx, eb.ldn, B.pv_some, B.ldn_eq]
      refine sf _ _ _ _ _ _ ea.at_ eb.at_ ?_
      simp -dsimp only [V.un_not, B.pv_some]
      refine B.cond_bool (fun hd => ?_) (fun hd => ?_) <;> simp -dsimp at hd ⊢
      · rw [decide_eq_false fun e => by subst e; rw [hw] at hu; cases hu; exact hd rfl] at hq
        exact hq
      · simp [inc64 (n := k) (by omega)]
        refine hY (L.length - (k + 1)) _ _ (by omega) ⟨k + 1, by omega, by simp, rfl, ?_⟩
        rw [take_succ hw, take_succ hu, he, hd]
    · rw [List.take_of_length_le (by omega), List.take_of_length_le (by omega)] at he
      rw [decide_eq_true he] at hq
      exact hq

/-- The marks behind a list that is lent. -/
def mks12 (mk : Int → Int → T) : List T := (List.range 12).map fun (i : Nat) => mk 1 (i : Int)
theorem setN_whole (K : DK T Ad) (a : Ad) : V.setN 0 K.n (.agg (K.cells a)) (.agg K.z) = some (.agg (K.cells a)) := by
  simp [K.len a, K.zlen]
theorem fieldN_whole (K : DK T Ad) (a : Ad) : V.fieldN 0 K.n (.agg (K.cells a)) = some (.agg (K.cells a)) := by
  have := K.len a
  simp [this]
  rw [← this, List.take_length]
/-- Ad list that was lent. -/
def DLent (K : DK T Ad) (mk : Int → Int → T) (h : AHeap) (x : AVal) (L : List T) : Prop :=
  ∃ P PM : List (T × Ad), P.map (·.1) = L ∧ PM.map (·.1) = mks12 mk ∧ SlX h K.n x (P.map K.cs) (PM.map K.cs) ∧ AllAt h (K.os true P) ∧ (∀ p ∈ P, K.ok p.1) ∧ ∀ p ∈ PM, K.at_ h p.1 p.2
theorem DLent.mono {mk : Int → Int → T} (hd : DLent K mk h x L) (hle : h.le h') : DLent K mk h' x L := by
  obtain ⟨P, PM, e1, e2, s, a1, a0, a2⟩ := hd
  exact ⟨P, PM, e1, e2, s.mono hle, a1.mono hle, a0, fun p hp => K.mono hle (a2 p hp)⟩
theorem DLent.dl {mk : Int → Int → T} (hd : DLent K mk h x L) : Dl K h x L := by
  obtain ⟨P, PM, e1, e2, s, a1, a0, a2⟩ := hd
  exact ⟨P, _, e1, s, fun p hp => K.ofObs (a0 p hp) fun o ho => a1 o (List.mem_flatMap.2 ⟨p, hp, ho⟩)⟩
theorem mks12_ok {mk : Int → Int → T} {PM : List (T × Ad)} (hmk : ∀ k i, K.ok (mk k i)) (e2 : PM.map (·.1) = mks12 mk) : ∀ p ∈ PM, K.ok p.1 := fun p hp => by
  have : p.1 ∈ PM.map (·.1) := List.mem_map.2 ⟨p, hp, rfl⟩
  rw [e2, mks12, List.mem_map] at this
  obtain ⟨i, _, e⟩ := this
  rw [← e]; exact hmk _ _
theorem DLent.of {mk : Int → Int → T} {P PM : List (T × Ad)} (hmk : ∀ k i, K.ok (mk k i)) (hok : ∀ t ∈ L, K.ok t) (e1 : P.map (·.1) = L) (e2 : PM.map (·.1) = mks12 mk) (ho : Owns h0 h (.sl K.n x (P.map K.cs) (PM.map K.cs) :: (K.os true P ++ K.os false PM))) : DLent K mk h x L :=
  ⟨P, PM, e1, e2, ho.slAt 0 rfl, fun o hm => ho.is o (List.mem_cons_of_mem _ (List.mem_append_left _ hm)), fun p hp => hok _ (e1 ▸ List.mem_map.2 ⟨p, hp, rfl⟩), fun p hp => K.ofObs (mks12_ok hmk e2 p hp) fun o hm => ho.is o (List.mem_cons_of_mem _ (List.mem_append_right _ (List.mem_flatMap.2 ⟨p, hp, hm⟩)))⟩
@[simp] def copyD.k1 (C : CSem) (n bytes f : Nat) (z : List AVal) (Q : AVal → AHeap → Prop) (Y1 : List AVal → AHeap → Prop) (v0 v3 v4 : AVal) (h : AHeap) : Prop :=
  B.pv (V.lenSl v0) fun v8 =>
    B.pv (V.bin .lss v4 v8) fun v9 =>
    B.cond v9
    (B.pv (V.idxS n v0 v4) fun v14 =>
    B.ldn h v14 n fun v15 =>
    B.call C f [v15] h fun v16 h =>
    B.pv (V.setN 0 n v16 (.agg z)) fun c5 =>
    B.pv (V.fieldN 0 n c5) fun v18 =>
    B.newO h (fillL [(0, some n, v18)] (repL 1 z)) fun i19 h =>
    B.appW h n bytes v3 (.sl i19 0 0 1 n 1) fun v20 h =>
    B.pv (V.bin .add v4 (.int .i64 1)) fun v11 =>
    Y1 [v20, v11] h)
    (Q v3 h)
@[simp] def copyD.l2 (C : CSem) (n bytes f : Nat) (z : List AVal) (Q : AVal → AHeap → Prop) (v0 : AVal) : List AVal → AHeap → (List AVal → AHeap → Prop) → Prop
  | [v3, v4], h, Y1 => copyD.k1 C n bytes f z Q Y1 v0 v3 v4 h
  | _, _, _ => False
def copyD (C : CSem) (n bytes f : Nat) (z : List AVal) (v0 : AVal) (h : AHeap) (Q : AVal → AHeap → Prop) : Prop :=
  LoopR (copyD.l2 C n bytes f z Q v0) [.nils, (.int .i64 0)] h
theorem copyD_spec {f : Nat} (sc : OneE K false C f) {Q : AVal → AHeap → Prop} (hx : Dl K h x L) (hlen : L.length ≤ 100000000) (hq : ∀ x' (P : List (T × Ad)) h', P.map (·.1) = L → Df K h h' x' P → Q x' h') : copyD C K.n K.bytes f K.z x h Q := by
  have hmul : ∀ n : Nat, n ≤ 100000100 → n * K.bytes ≤ 140737488355328 := fun n hn => by
    have := Nat.mul_le_mul hn K.small
    omega
  have hlx := hx.lenSl
  refine LoopR.intro (fun n vs hh => ∃ (k : Nat) (y : AVal) (P : List (T × Ad)), k + n = L.length ∧ vs = [y, .int .i64 k] ∧ P.map (·.1) = L.take k ∧ Df K h hh y P) L.length ?_ ⟨0, .nils, [], by simp, by simp, by simp, by simpa [Df, DK.os] using (Owns.start h).nils K.n⟩
  rintro Y n vs hh ⟨k, y3, P, hn, rfl, hP, ho3⟩ hY
  have hPl : P.length = k := by have := congrArg List.length hP; simp at this; omega
  simp -dsimp [hlx]
  refine B.cond_bool (fun hc => ?_) (fun hc => ?_) <;> simp -dsimp at hc ⊢
  · obtain ⟨w, hw⟩ := get_lt hc
    obtain ⟨a, ea⟩ := (hx.mono ho3.le).get hw
    simp -dsimp only [ea.idx, ea.ldn, B.pv_some, B.ldn_eq]
    refine sc _ _ _ _ ea.at_ fun a' h4 o4 => ?_
    simp -dsimp only [setN_whole K a', fieldN_whole K a', fill_agg K a', B.pv_some]
    refine (ho3.join o4).push 0 rfl (K.len a') K.pos (by simp; exact hmul _ (by omega)) (by simp [maxLen]; omega) fun y5 h5 o5 _ => ?_
    simp -dsimp [inc64 (n := k) (by omega)]
    refine hY (L.length - (k + 1)) _ _ (by omega) ⟨k + 1, y5, P ++ [(w, a')], by omega, by simp, ?_, ?_⟩
    · rw [take_succ hw, List.map_append, hP]; rfl
    · unfold Df
      rw [DK.os_append, DK.os_one, List.map_append]
      simpa using o5
  · have hk : k = L.length := by omega
    rw [hk, List.take_length] at hP
    exact hq y3 P hh hP ho3
end
end Go.Ab

/- What is proved: contracts of what the statements share about lists of plain things: marks, the same, lent, kept, written over, copied, apart. No conditions. Printed by a program of mine. -/
set_option linter.unusedVariables false
set_option linter.unusedSimpArgs false
set_option maxRecDepth 100000
namespace Go.Ab
variable {C : CSem} {N : Nat → Nat}

@[irreducible] def mark (k i : Int) : Int := IntKind.i64.wrap (IntKind.i64.wrap (1000003 * IntKind.i64.wrap (k + 7)) + i)
def kit_mark.Spec (C : CSem) (N : Nat → Nat) : Prop := ∀ (k i : Int) (h : AHeap) (Q : AVal → AHeap → Prop), Q (.int .i64 (mark k i)) h → C (N 20) [.int .i64 k, .int .i64 i] h Q
theorem kit_mark.spec (i : kit_mark.Imp C N) : kit_mark.Spec C N := by
  intro k j h Q hq
  apply i
  simp +contextual -dsimp
  unfold mark at hq
  exact dn_same hq

/-- A list of lists: x, of n, these xs; what they hold, and behind. -/
structure LL where
  x : AVal
  n : Nat
  xs : Nat → AVal
  D : Nat → List (List AVal)
  R : Nat → List (List AVal)
  W : List (List AVal)
def LL.obs (es : Nat) (t : LL) : List Ob := Objs es t.n t.xs t.D t.R
structure LL.ok (t : LL) (h0 : AHeap) : Prop where
  is : SlX h0 1 t.x (fills t.n fun j => [t.xs j]) t.W
  n_le : t.n ≤ 100000000
  len_le : ∀ j, j < t.n → (t.D j).length ≤ 100000000
def FlatNil (C : CSem) (g : Nat) : Prop := ∀ (x : AVal) (W : List (List AVal)) (h0 h : AHeap) (Q : AVal → AHeap → Prop), SlX h0 1 x [] W → h0.le h → (∀ h', h0.le h' → Q (.bool true) h') → C g [x] h Q
theorem LoopR.once {F : List AVal → AHeap → (List AVal → AHeap → Prop) → Prop} {vs : List AVal} {h : AHeap} (hF : ∀ Y, F vs h Y) : LoopR F vs h := fun Y hY => hY vs h (hF Y)
theorem flatG_nil {E : ElOps} {x : AVal} {W : List (List AVal)} {h0 h : AHeap} {Q : AVal → AHeap → Prop} (hx : SlX h0 1 x [] W) (hle : h0.le h) (hq : ∀ h', h0.le h' → Q (.bool true) h') : flatG E C x h Q := by
  have hl := (hx.mono hle).lenSl
  refine LoopR.once fun Y1 => ?_
  simp -dsimp [hl]
  refine (Owns.start h).mks (bytes := 24) (es := 1) (n := 0) (c := 0) (z := [.nils]) rfl (by omega) (by omega) (by omega) (by omega) fun y h1 ho => ?_
  have hl1 := (hx.mono (AHeap.le_trans hle ho.le)).lenSl
  refine LoopR.once fun Y2 => ?_
  simp -dsimp [hl1]
  refine LoopR.once fun Y3 => ?_
  simp -dsimp [hl1]
  refine LoopR.once fun Y4 => ?_
  simp -dsimp [hl1]
  refine LoopR.once fun Y5 => ?_
  simp -dsimp [hl1]
  exact hq _ (AHeap.le_trans hle ho.le)


def markLot (k i : Int) : Lot := ⟨mark k i, [], 0, 0, 0, false⟩
abbrev marksLot : List (List AVal) := marks lotF (markLot 1) 12

def markUse (k i : Int) : Use := ⟨0, mark k i, 0⟩
abbrev marksUse : List (List AVal) := marks useF (markUse 1) 12

@[irreducible] def markByte (k i : Int) : UInt8 := byt ((IntKind.u64.wrap (IntKind.u64.wrap (mark k i) * 11400714819323198485)).fdiv (2 ^ 56))
def kit_markByte.Spec (C : CSem) (N : Nat → Nat) : Prop := ∀ (k i : Int) (h : AHeap) (Q : AVal → AHeap → Prop), Q (.int .u8 ((markByte k i).toNat : Int)) h → C (N 64) [.int .i64 k, .int .i64 i] h Q
theorem kit_markByte.spec (i : kit_markByte.Imp C N) (s1 : kit_mark.Spec C N) : kit_markByte.Spec C N := by
  intro k j h Q hq
  apply i
  simp +contextual -dsimp
  refine s1 _ _ _ _ ?_
  unfold markByte at hq
  simp +contextual -dsimp [bin_shr (k := .u64) (j := .u64) (b := 56) (by omega) (by simp [IntKind.bits]), u8_byt]
  exact dn_same hq
abbrev marksByte : List (List AVal) := cmarks bS (markByte 1) 12

theorem kit_flatInts.nil (i : kit_flatInts.Imp C N) : FlatNil C (N 81) := fun x W h0 h Q hx hle hq => i x h Q (flatG_nil hx hle fun h' hle => dn_same (hq h' hle))

theorem kit_flatItems.nil (i : kit_flatItems.Imp C N) : FlatNil C (N 90) := fun x W h0 h Q hx hle hq => i x h Q (flatG_nil hx hle fun h' hle => dn_same (hq h' hle))

theorem kit_flatAsks.nil (i : kit_flatAsks.Imp C N) : FlatNil C (N 92) := fun x W h0 h Q hx hle hq => i x h Q (flatG_nil hx hle fun h' hle => dn_same (hq h' hle))

theorem kit_flatTells.nil (i : kit_flatTells.Imp C N) : FlatNil C (N 93) := fun x W h0 h Q hx hle hq => i x h Q (flatG_nil hx hle fun h' hle => dn_same (hq h' hle))

theorem kit_flatStates.nil (i : kit_flatStates.Imp C N) : FlatNil C (N 94) := fun x W h0 h Q hx hle hq => i x h Q (flatG_nil hx hle fun h' hle => dn_same (hq h' hle))

theorem kit_flatFates.nil (i : kit_flatFates.Imp C N) : FlatNil C (N 97) := fun x W h0 h Q hx hle hq => i x h Q (flatG_nil hx hle fun h' hle => dn_same (hq h' hle))

theorem kit_flatDirties.nil (i : kit_flatDirties.Imp C N) : FlatNil C (N 98) := fun x W h0 h Q hx hle hq => i x h Q (flatG_nil hx hle fun h' hle => dn_same (hq h' hle))

theorem kit_flatOpens.nil (i : kit_flatOpens.Imp C N) : FlatNil C (N 99) := fun x W h0 h Q hx hle hq => i x h Q (flatG_nil hx hle fun h' hle => dn_same (hq h' hle))

theorem kit_flatRecords.nil (i : kit_flatRecords.Imp C N) : FlatNil C (N 100) := fun x W h0 h Q hx hle hq => i x h Q (flatG_nil hx hle fun h' hle => dn_same (hq h' hle))

theorem kit_flatSteps.nil (i : kit_flatSteps.Imp C N) : FlatNil C (N 101) := fun x W h0 h Q hx hle hq => i x h Q (flatG_nil hx hle fun h' hle => dn_same (hq h' hle))

theorem kit_flatTales.nil (i : kit_flatTales.Imp C N) : FlatNil C (N 102) := fun x W h0 h Q hx hle hq => i x h Q (flatG_nil hx hle fun h' hle => dn_same (hq h' hle))

theorem kit_flatWords.nil (i : kit_flatWords.Imp C N) : FlatNil C (N 80) := by
  intro x W h0 h Q hx hle hq
  apply i
  have hl := (hx.mono hle).lenSl
  refine LoopR.once fun Y1 => ?_
  simp -dsimp [hl]
  refine (Owns.start h).mks (bytes := 24) (es := 1) (n := 0) (c := 0) (z := [.nils]) rfl (by omega) (by omega) (by omega) (by omega) fun y h1 ho => ?_
  have hl1 := (hx.mono (AHeap.le_trans hle ho.le)).lenSl
  refine LoopR.once fun Y2 => ?_
  simp -dsimp [hl1]
  refine LoopR.once fun Y3 => ?_
  simp -dsimp [hl1]
  refine LoopR.once fun Y4 => ?_
  simp -dsimp [hl1]
  refine LoopR.once fun Y5 => ?_
  simp -dsimp [hl1]
  exact dn_same (hq _ (AHeap.le_trans hle ho.le))

theorem kit_flatLongs.nil (i : kit_flatLongs.Imp C N) : FlatNil C (N 82) := by
  intro x W h0 h Q hx hle hq
  apply i
  have hl := (hx.mono hle).lenSl
  refine LoopR.once fun Y1 => ?_
  simp -dsimp [hl]
  refine (Owns.start h).mks (bytes := 24) (es := 1) (n := 0) (c := 0) (z := [.nils]) rfl (by omega) (by omega) (by omega) (by omega) fun y h1 ho => ?_
  have hl1 := (hx.mono (AHeap.le_trans hle ho.le)).lenSl
  refine LoopR.once fun Y2 => ?_
  simp -dsimp [hl1]
  refine LoopR.once fun Y3 => ?_
  simp -dsimp [hl1]
  refine LoopR.once fun Y4 => ?_
  simp -dsimp [hl1]
  refine LoopR.once fun Y5 => ?_
  simp -dsimp [hl1]
  exact dn_same (hq _ (AHeap.le_trans hle ho.le))
end Go.Ab

/- What is proved: contracts of what the statements share about rows and turns: are they the same, lent, kept, copied, marks. No conditions. -/
set_option linter.unusedVariables false
set_option linter.unusedSimpArgs false
namespace Go.Ab
variable {C : CSem} {N : Nat → Nat}
structure Row where
  Key : List UInt8
  Value : List UInt8
deriving DecidableEq
structure Turn where
  Key : List UInt8
  Old : List UInt8
  New : List UInt8
deriving DecidableEq
def bOb (b : Bool) (x : AVal) (s : List UInt8) : Ob := .sl 1 x (s.map bc) (bif b then marksByte else [])
theorem bOb_at {b : Bool} {h : AHeap} {x : AVal} {s : List UInt8} (hs : s.length ≤ far) (ha : (bOb b x s).at h) : Bs h x s := ⟨⟨_, ha⟩, hs⟩
abbrev Row.ok (r : Row) : Prop := r.Key.length ≤ far ∧ r.Value.length ≤ far
abbrev Turn.ok (r : Turn) : Prop := r.Key.length ≤ far ∧ r.Old.length ≤ far ∧ r.New.length ≤ far
def rowK : DK Row (AVal × AVal) where
  n := 2
  bytes := 48
  z := [.nils, .nils]
  pos := by omega
  small := by omega
  zlen := rfl
  cells a := [a.1, a.2]
  len _ := rfl
  at_ h t a := Bs h a.1 t.Key ∧ Bs h a.2 t.Value
  mono hle ha := ⟨ha.1.mono hle, ha.2.mono hle⟩
  ok := Row.ok
  at_ok ha := ⟨ha.1.2, ha.2.2⟩
  obs b t a := [bOb b a.1 t.Key, bOb b a.2 t.Value]
  ofObs {b h t a} hk ha := ⟨bOb_at (b := b) hk.1 (ha _ (by simp)), bOb_at (b := b) hk.2 (ha _ (by simp))⟩
def turnK : DK Turn (AVal × AVal × AVal) where
  n := 3
  bytes := 72
  z := [.nils, .nils, .nils]
  pos := by omega
  small := by omega
  zlen := rfl
  cells a := [a.1, a.2.1, a.2.2]
  len _ := rfl
  at_ h t a := Bs h a.1 t.Key ∧ Bs h a.2.1 t.Old ∧ Bs h a.2.2 t.New
  mono hle ha := ⟨ha.1.mono hle, ha.2.1.mono hle, ha.2.2.mono hle⟩
  ok := Turn.ok
  at_ok ha := ⟨ha.1.2, ha.2.1.2, ha.2.2.2⟩
  obs b t a := [bOb b a.1 t.Key, bOb b a.2.1 t.Old, bOb b a.2.2 t.New]
  ofObs {b h t a} hk ha := ⟨bOb_at (b := b) hk.1 (ha _ (by simp)), bOb_at (b := b) hk.2.1 (ha _ (by simp)), bOb_at (b := b) hk.2.2 (ha _ (by simp))⟩
def kit_SameBytes.SpecL (C : CSem) (N : Nat → Nat) : Prop := ∀ (x y : AVal) (s t : List UInt8) (h : AHeap) (Q : AVal → AHeap → Prop), Bs h x s → Bs h y t → Q (.bool (decide (s = t))) h → C (N 34) [x, y] h Q
theorem kit_SameBytes.spl (i : kit_SameBytes.Imp C N) : kit_SameBytes.SpecL C N := fun x y s t h Q ⟨⟨R, hx⟩, hs⟩ ⟨⟨S, hy⟩, ht⟩ hq =>
  i x y h Q (sameS_spec bS hx hy (by unfold far at hs; omega) (dn_same hq))
def kit_LentBytes.SpecL (C : CSem) (N : Nat → Nat) : Prop := ∀ (x : AVal) (s : List UInt8) (h : AHeap) (Q : AVal → AHeap → Prop), Bs h x s → (∀ x' h', Owns h h' [bOb true x' s] → Q x' h') → C (N 37) [x] h Q
theorem kit_LentBytes.spl (i : kit_LentBytes.Imp C N) (s1 : kit_markByte.Spec C N) : kit_LentBytes.SpecL C N := fun x s h Q ⟨⟨R, hx⟩, hs⟩ hq =>
  i x h Q (lentS_specL bS (z := .int .u8 0) (m := 1) (mk := markByte 1) (s1 1) hx (by unfold far at hs; omega) (by unfold far at hs; omega) fun x' h' ho => dn_same (hq x' h' ho))
def kit_KeptBytes.SpecL (C : CSem) (N : Nat → Nat) : Prop := ∀ (x y : AVal) (s t : List UInt8) (h : AHeap) (Q : AVal → AHeap → Prop), s.length ≤ far → (bOb true x s).at h → Bs h y t → Q (.bool (decide (s = t))) h → C (N 39) [x, y] h Q
theorem kit_KeptBytes.spl (i : kit_KeptBytes.Imp C N) (s1 : kit_markByte.Spec C N) : kit_KeptBytes.SpecL C N := fun x y s t h Q hs hx ⟨⟨R, hy⟩, ht⟩ hq =>
  i x y h Q (keptS_specL bS (m := 1) (mk := markByte 1) (s1 1) hx hy (by unfold far at hs; omega) (dn_same hq))
def kit_CopyBytes.SpecL (C : CSem) (N : Nat → Nat) : Prop := ∀ (x : AVal) (s : List UInt8) (h : AHeap) (Q : AVal → AHeap → Prop), Bs h x s → (∀ x' h', Owns h h' [bOb false x' s] → Q x' h') → C (N 45) [x] h Q
theorem kit_CopyBytes.spl (i : kit_CopyBytes.Imp C N) : kit_CopyBytes.SpecL C N := fun x s h Q ⟨⟨R, hx⟩, hs⟩ hq =>
  i x h Q (copy_specL (by omega) hx (by simp; unfold far at hs; omega) (by simp; unfold far at hs; omega) fun x' h' ho => dn_same (hq x' h' ho))

/-! Rows. -/
def kit_SameRow.Spec (C : CSem) (N : Nat → Nat) : Prop := SameE rowK C (N 118)
theorem kit_SameRow.spec (i : kit_SameRow.Imp C N) (s1 : kit_SameBytes.SpecL C N) : kit_SameRow.Spec C N := by
  intro t u a b h Q ha hb hq
  obtain ⟨a1, a2⟩ : Bs h a.1 t.Key ∧ Bs h a.2 t.Value := ha
  obtain ⟨b1, b2⟩ : Bs h b.1 u.Key ∧ Bs h b.2 u.Value := hb
  apply i
  simp -dsimp [rowK]
  refine s1 _ _ _ _ _ _ a1 b1 ?_
  simp +contextual -dsimp
  refine B.gdb_call (v := .bool (decide (t.Value = u.Value))) (fun _ Q hq => s1 _ _ _ _ _ _ a2 b2 hq) ?_
  simp -dsimp
  refine dn_same ?_
  have : decide (t = u) = (decide (t.Key = u.Key) && decide (t.Value = u.Value)) := by
    cases t; cases u; simp [Row.mk.injEq]
  rw [this] at hq
  exact hq
def kit_CopyRow.Spec (C : CSem) (N : Nat → Nat) : Prop := OneE rowK false C (N 311)
theorem kit_CopyRow.spec (i : kit_CopyRow.Imp C N) (s1 : kit_CopyBytes.SpecL C N) : kit_CopyRow.Spec C N := by
  intro t a h Q ha hq
  obtain ⟨a1, a2⟩ : Bs h a.1 t.Key ∧ Bs h a.2 t.Value := ha
  apply i
  simp -dsimp [rowK]
  refine s1 _ _ _ _ a1 fun x1 h1 o1 => ?_
  simp -dsimp [((o1.is _ (List.mem_singleton_self _)) : (bOb false x1 t.Key).at h1).isCell]
  refine s1 _ _ _ _ (a2.mono o1.le) fun x2 h2 o2 => ?_
  simp -dsimp [((o2.is _ (List.mem_singleton_self _)) : (bOb false x2 t.Value).at h2).isCell]
  exact dn_same (hq (x1, x2) h2 (o1.join o2))
def markRow (k i : Int) : Row := ⟨[markByte k i], []⟩
theorem markRow_ok (k i : Int) : rowK.ok (markRow k i) := ⟨by simp [markRow, far], by simp [markRow]⟩
def kit_markRow.Spec (C : CSem) (N : Nat → Nat) : Prop := MarkE rowK markRow C (N 117)
theorem kit_markRow.spec (i : kit_markRow.Imp C N) (s1 : kit_markByte.Spec C N) : kit_markRow.Spec C N := by
  intro k j h Q hq
  apply i
  simp -dsimp
  refine s1 _ _ _ _ ?_
  simp -dsimp
  intro id hid
  simp -dsimp
  have o := (Owns.start h).newSl hid (n := 1) (cp := 1) (es := 1) (cs := [.int .u8 ((markByte k j).toNat : Int)]) (L := [markByte k j].map bc) (R := []) (by simp) rfl (by simp) rfl
  exact dn_same (hq (.sl id 0 0 1 1 1, .nils) _ (by simpa [rowK, markRow, bOb] using o.nils 1))
def kit_SameRows.Spec (C : CSem) (N : Nat → Nat) : Prop := ∀ (x y : AVal) (L M : List Row) (h : AHeap) (Q : AVal → AHeap → Prop), Dl rowK h x L → Dl rowK h y M → L.length < 4611686018427387904 → Q (.bool (decide (L = M))) h → C (N 263) [x, y] h Q
theorem kit_SameRows.spec (i : kit_SameRows.Imp C N) (s1 : kit_SameRow.Spec C N) : kit_SameRows.Spec C N := fun x y L M h Q hx hy hl hq =>
  i x y h Q (sameD_spec (K := rowK) s1 hx hy hl (dn_same hq))
def kit_CopyRows.Spec (C : CSem) (N : Nat → Nat) : Prop := ∀ (x : AVal) (L : List Row) (h : AHeap) (Q : AVal → AHeap → Prop), Dl rowK h x L → L.length ≤ 100000000 →
  (∀ x' P h', P.map (·.1) = L → Df rowK h h' x' P → Q x' h') → C (N 306) [x] h Q
theorem kit_CopyRows.spec (i : kit_CopyRows.Imp C N) (s1 : kit_CopyRow.Spec C N) : kit_CopyRows.Spec C N := fun x L h Q hx hl hq =>
  i x h Q (copyD_spec (K := rowK) s1 hx hl fun x' P h' e o => dn_same (hq x' P h' e o))
end Go.Ab

/- What is proved: the plain law of rows and turns: rows that differ, rows turned, there and back. No conditions. -/
set_option linter.unusedVariables false
set_option linter.unusedSimpArgs false
namespace Go.Ab
/-! The order of bytes. -/
abbrev lessB : List UInt8 → List UInt8 → Bool := Op.bytesLess
theorem lessB_nil (a : List UInt8) : lessB a [] = false := by cases a <;> rfl
theorem lessB_cc (a b : UInt8) (as1 bs : List UInt8) : lessB (a :: as1) (b :: bs) = (decide (a < b) || (a == b && lessB as1 bs)) := rfl
theorem u8_tri (a b : UInt8) : a < b ∨ a = b ∨ b < a := by
  simp only [UInt8.lt_iff_toNat_lt, ← UInt8.toNat_inj]; omega
theorem lessB_irr : ∀ a : List UInt8, lessB a a = false
  | [] => rfl
  | a :: as1 => by rw [lessB_cc, lessB_irr as1]; simp
theorem lessB_trans : ∀ {a b c : List UInt8}, lessB a b = true → lessB b c = true → lessB a c = true
  | _, [], _, h, _ => by rw [lessB_nil] at h; cases h
  | _, _ :: _, [], _, h => by rw [lessB_nil] at h; cases h
  | [], _ :: _, _ :: _, _, _ => rfl
  | a :: as1, b :: bs, c :: cs, h1, h2 => by
    rw [lessB_cc] at h1 h2 ⊢
    simp only [Bool.or_eq_true, decide_eq_true_eq, Bool.and_eq_true, beq_iff_eq] at h1 h2 ⊢
    rcases h1 with h1 | ⟨rfl, h1⟩
    · rcases h2 with h2 | ⟨rfl, h2⟩
      · left; simp only [UInt8.lt_iff_toNat_lt] at *; omega
      · exact .inl h1
    · rcases h2 with h2 | ⟨rfl, h2⟩
      · exact .inl h2
      · exact .inr ⟨rfl, lessB_trans h1 h2⟩
theorem lessB_total : ∀ {a b : List UInt8}, lessB a b = false → lessB b a = false → a = b
  | [], [], _, _ => rfl
  | [], _ :: _, h, _ => by cases h
  | _ :: _, [], _, h => by cases h
  | a :: as1, b :: bs, h1, h2 => by
    rw [lessB_cc] at h1 h2
    simp only [Bool.or_eq_false_iff, decide_eq_false_iff_not, Bool.and_eq_false_iff, beq_eq_false_iff_ne] at h1 h2
    obtain rfl : a = b := by rcases u8_tri a b with h | h | h <;> simp_all
    rw [lessB_total (h1.2.resolve_left fun h => h rfl) (h2.2.resolve_left fun h => h rfl)]
theorem lessB_asym {a b : List UInt8} (h : lessB a b = true) : lessB b a = false := by
  cases e : lessB b a with
  | false => rfl
  | true => have := lessB_trans h e; rw [lessB_irr] at this; cases this
theorem lessB_ne {a b : List UInt8} (h : lessB a b = true) : a ≠ b := fun e => by subst e; rw [lessB_irr] at h; cases h
theorem lessB_or {a b : List UInt8} (h : lessB a b = false) (hne : a ≠ b) : lessB b a = true := by
  cases e : lessB b a with
  | true => rfl
  | false => exact absurd (lessB_total h e) hne
abbrev cmpB := Lib.compareBytes
theorem cmpB_spec : ∀ a b : List UInt8, cmpB a b = if lessB a b then -1 else if lessB b a then 1 else 0
  | [], [] => rfl
  | [], _ :: _ => rfl
  | _ :: _, [] => rfl
  | a :: as1, b :: bs => by
    have ih := cmpB_spec as1 bs
    show (if a < b then -1 else if b < a then 1 else cmpB as1 bs) = _
    rw [ih, lessB_cc, lessB_cc]
    rcases u8_tri a b with h | rfl | h
    · simp [h]
    · have hi : ¬ a < a := by simp only [UInt8.lt_iff_toNat_lt]; omega
      simp
    · have h1 : ¬ a < b := by simp only [UInt8.lt_iff_toNat_lt] at *; omega
      have h2 : a ≠ b := fun e => by subst e; exact h1 h
      have h3 : (a == b) = false := by simp [h2]
      simp [h, h1, h3]
theorem cmpB_neg {a b : List UInt8} : cmpB a b < 0 ↔ lessB a b = true := by
  rw [cmpB_spec]; split
  · simp [*]
  · split <;> simp [*]
theorem cmpB_pos {a b : List UInt8} : 0 < cmpB a b ↔ lessB b a = true := by
  rw [cmpB_spec]; split
  · rename_i h; simp [lessB_asym h]
  · split <;> simp [*]
theorem cmpB_zero {a b : List UInt8} : cmpB a b = 0 ↔ a = b := by
  rw [cmpB_spec]; split
  · rename_i h; simp [lessB_ne h]
  · split
    · rename_i h; simp [(lessB_ne h).symm]
    · rename_i h1 h2; simp [lessB_total (by simpa using h1) (by simpa using h2)]

/-! What rises has its own order. -/
theorem rise_ext {T : Type} {lt : T → T → Prop} (asym : ∀ a b, lt a b → lt b a → False) {l m : List T} (s : l.Pairwise lt) (t : m.Pairwise lt) (e : ∀ x, x ∈ l ↔ x ∈ m) : l = m := by
  have nd : ∀ {l : List T}, l.Pairwise lt → l.Nodup := fun h => h.imp fun {a b} hab e => by subst e; exact asym a a hab hab
  exact List.Perm.eq_of_pairwise (le := lt) (fun a b _ _ h1 h2 => (asym a b h1 h2).elim) s t ((List.perm_ext_iff_of_nodup (nd s) (nd t)).2 e)

abbrev rowLt (r s : Row) : Prop := lessB r.Key s.Key = true
theorem rowLt_asym (a b : Row) (h1 : rowLt a b) (h2 : rowLt b a) : False := by
  have := lessB_asym h1; unfold rowLt at h2; rw [this] at h2; cases h2
structure RightL (l : List Row) : Prop where
  key : ∀ r ∈ l, r.Key ≠ []
  val : ∀ r ∈ l, r.Value ≠ []
  up : l.Pairwise rowLt
theorem RightL.nil : RightL [] := ⟨by simp, by simp, .nil⟩
theorem RightL.cons {r : Row} {l : List Row} (h : RightL (r :: l)) : RightL l := ⟨fun s hs => h.key s (List.mem_cons_of_mem _ hs), fun s hs => h.val s (List.mem_cons_of_mem _ hs), (List.pairwise_cons.1 h.up).2⟩
def rightAt (l : List Row) (i : Nat) : Bool := match l[i]? with
  | none => true
  | some r => !decide (r.Key = []) && !decide (r.Value = []) && (decide (i = 0) || match l[i - 1]? with | some p => lessB p.Key r.Key | none => true)
def rightR (l : List Row) : Bool := (List.range l.length).all (rightAt l)
theorem rightR_iff {l : List Row} : rightR l = true ↔ RightL l := by
  unfold rightR
  rw [List.all_eq_true]
  constructor
  · intro h
    have key : ∀ i (hi : i < l.length), l[i].Key ≠ [] ∧ l[i].Value ≠ [] ∧ ∀ (h0 : 0 < i), lessB l[i - 1].Key l[i].Key = true := fun i hi => by
      have := h i (by simpa using hi)
      simp only [rightAt, List.getElem?_eq_getElem hi, Bool.and_eq_true, Bool.or_eq_true, Bool.not_eq_true', decide_eq_false_iff_not, decide_eq_true_eq] at this
      refine ⟨this.1.1, this.1.2, fun h0 => ?_⟩
      rcases this.2 with e | e
      · omega
      · rw [List.getElem?_eq_getElem (by omega)] at e; exact e
    refine ⟨fun r hr => ?_, fun r hr => ?_, List.pairwise_iff_getElem.2 fun i j hi hj hij => ?_⟩
    · obtain ⟨i, hi, rfl⟩ := List.mem_iff_getElem.1 hr; exact (key i hi).1
    · obtain ⟨i, hi, rfl⟩ := List.mem_iff_getElem.1 hr; exact (key i hi).2.1
    · have : ∀ d i (hi : i + 1 + d < l.length), lessB (l[i]'(by omega)).Key (l[i + 1 + d]).Key = true := by
        intro d
        induction d with
        | zero => intro i hi; exact (key (i + 1) hi).2.2 (by omega)
        | succ d ih =>
          intro i hi
          exact lessB_trans (ih i (by omega)) ((key (i + 1 + (d + 1)) hi).2.2 (by omega))
      have := this (j - i - 1) i (by omega)
      simpa only [show i + 1 + (j - i - 1) = j by omega] using this
  · intro h i hi
    have hi : i < l.length := by simpa using hi
    simp only [rightAt, List.getElem?_eq_getElem hi, Bool.and_eq_true, Bool.or_eq_true, Bool.not_eq_true', decide_eq_false_iff_not, decide_eq_true_eq]
    refine ⟨⟨h.key _ (List.getElem_mem hi), h.val _ (List.getElem_mem hi)⟩, ?_⟩
    by_cases e : i = 0
    · exact .inl e
    · right
      rw [List.getElem?_eq_getElem (by omega)]
      exact List.pairwise_iff_getElem.1 h.up (i - 1) i (by omega) hi (by omega)

/-! Rows as a table. -/
abbrev Tab := List UInt8 → List UInt8
def getR : List Row → List UInt8 → List UInt8
  | [], _ => []
  | r :: l, k => if r.Key = k then r.Value else getR l k
theorem getR_cons (r : Row) (l : List Row) (k : List UInt8) : getR (r :: l) k = if k = r.Key then r.Value else getR l k := by
  rw [getR]
  by_cases h : r.Key = k
  · rw [if_pos h, if_pos h.symm]
  · rw [if_neg h, if_neg (Ne.symm h)]
theorem getR_none {k : List UInt8} : ∀ {l : List Row}, (∀ r ∈ l, r.Key ≠ k) → getR l k = []
  | [], _ => rfl
  | r :: l, h => by rw [getR, if_neg (h r (by simp)), getR_none fun s hs => h s (List.mem_cons_of_mem _ hs)]
theorem getR_ne {k : List UInt8} : ∀ {l : List Row}, getR l k ≠ [] → ∃ r ∈ l, r.Key = k ∧ r.Value = getR l k
  | [], h => absurd rfl h
  | r :: l, h => by
    rw [getR] at h ⊢
    split
    · exact ⟨r, by simp, by assumption, rfl⟩
    · rename_i hne
      rw [if_neg hne] at h
      obtain ⟨s, hs, h1, h2⟩ := getR_ne h
      exact ⟨s, List.mem_cons_of_mem _ hs, h1, h2⟩
theorem RightL.get : ∀ {l : List Row}, RightL l → ∀ {r : Row}, r ∈ l → getR l r.Key = r.Value
  | [], _, r, hr => by cases hr
  | s :: l, h, r, hr => by
    rw [getR]
    rcases List.mem_cons.1 hr with rfl | hr
    · rw [if_pos rfl]
    · rw [if_neg (lessB_ne ((List.pairwise_cons.1 h.up).1 r hr)), h.cons.get hr]
theorem RightL.ext {l m : List Row} (hl : RightL l) (hm : RightL m) (e : ∀ k, getR l k = getR m k) : l = m := by
  have one : ∀ {l m : List Row}, RightL l → RightL m → (∀ k, getR l k = getR m k) → ∀ x, x ∈ l → x ∈ m := fun {l m} hl hm e x hx => by
    have h1 := hl.get hx
    obtain ⟨s, hs, h2, h3⟩ := getR_ne (l := m) (k := x.Key) (by rw [← e, h1]; exact hl.val x hx)
    rw [← e, h1] at h3
    cases s; cases x; simp only at h2 h3; subst h2 h3; exact hs
  exact rise_ext rowLt_asym hl.up hm.up fun x => ⟨one hl hm e x, one hm hl (fun k => (e k).symm) x⟩
def putGo (k v : List UInt8) : Bool → List Row → List Row
  | d, [] => if d then [] else [⟨k, v⟩]
  | d, r :: l => (if !d && !lessB r.Key k then [⟨k, v⟩] else []) ++ ((if r.Key = k then [] else [r]) ++ putGo k v (d || !lessB r.Key k) l)
def putR (l : List Row) (k v : List UInt8) : List Row := putGo k v (decide (v = [])) l
theorem putGo_true {k v : List UInt8} : ∀ l : List Row, putGo k v true l = l.filter fun r => !decide (r.Key = k)
  | [] => rfl
  | r :: l => by
    rw [putGo, Bool.true_or, putGo_true l, List.filter_cons]
    by_cases h : r.Key = k <;> simp [h]
theorem putGo_false {k v : List UInt8} : ∀ {l : List Row}, l.Pairwise rowLt → (putGo k v false l).Pairwise rowLt ∧ ∀ s, s ∈ putGo k v false l ↔ s = ⟨k, v⟩ ∨ (s ∈ l ∧ s.Key ≠ k)
  | [], _ => ⟨by simp [putGo], by simp [putGo]⟩
  | r :: l, h => by
    have hc := List.pairwise_cons.1 h
    rw [putGo]
    cases e : lessB r.Key k with
    | true =>
      obtain ⟨ih1, ih2⟩ := putGo_false (k := k) (v := v) hc.2
      have hne := lessB_ne e
      simp only [Bool.not_false, Bool.not_true, Bool.and_false, Bool.false_or, hne, if_false, Bool.false_eq_true, List.nil_append, List.singleton_append]
      refine ⟨List.pairwise_cons.2 ⟨fun s hs => ?_, ih1⟩, fun s => ?_⟩
      · rcases (ih2 s).1 hs with rfl | ⟨hs, _⟩
        · exact e
        · exact hc.1 s hs
      · rw [List.mem_cons, ih2, List.mem_cons]
        constructor
        · rintro (rfl | h | h)
          · exact .inr ⟨.inl rfl, hne⟩
          · exact .inl h
          · exact .inr ⟨.inr h.1, h.2⟩
        · rintro (h | ⟨rfl | h, h2⟩)
          · exact .inr (.inl h)
          · exact .inl rfl
          · exact .inr (.inr ⟨h, h2⟩)
    | false =>
      have hf : (if r.Key = k then [] else [r]) ++ putGo k v true l = (r :: l).filter fun r => !decide (r.Key = k) := by
        rw [putGo_true, List.filter_cons]
        by_cases h : r.Key = k <;> simp [h]
      simp only [Bool.not_false, Bool.and_self, if_true, Bool.or_true, hf, List.singleton_append]
      refine ⟨List.pairwise_cons.2 ⟨fun s hs => ?_, h.filter _⟩, fun s => ?_⟩
      · obtain ⟨hs, hk⟩ := List.mem_filter.1 hs
        have hk : s.Key ≠ k := by simpa using hk
        show lessB k s.Key = true
        rcases List.mem_cons.1 hs with rfl | hs
        · exact lessB_or e hk
        · by_cases e2 : r.Key = k
          · rw [← e2]; exact hc.1 s hs
          · exact lessB_trans (lessB_or e e2) (hc.1 s hs)
      · rw [List.mem_cons, List.mem_filter]; simp
theorem putR_mem {l : List Row} (h : l.Pairwise rowLt) (k v : List UInt8) : (putR l k v).Pairwise rowLt ∧ ∀ s, s ∈ putR l k v ↔ (v ≠ [] ∧ s = ⟨k, v⟩) ∨ (s ∈ l ∧ s.Key ≠ k) := by
  unfold putR
  by_cases e : v = []
  · subst e
    rw [decide_eq_true rfl, putGo_true]
    exact ⟨h.filter _, fun s => by rw [List.mem_filter]; simp⟩
  · rw [decide_eq_false e]
    obtain ⟨h1, h2⟩ := putGo_false (k := k) (v := v) h
    exact ⟨h1, fun s => by rw [h2]; simp [e]⟩
theorem putR_right {l : List Row} (h : RightL l) {k v : List UInt8} (hk : k ≠ []) : RightL (putR l k v) := by
  obtain ⟨h1, h2⟩ := putR_mem h.up k v
  refine ⟨fun r hr => ?_, fun r hr => ?_, h1⟩
  · rcases (h2 r).1 hr with ⟨_, rfl⟩ | ⟨hr, _⟩
    · exact hk
    · exact h.key r hr
  · rcases (h2 r).1 hr with ⟨hv, rfl⟩ | ⟨hr, _⟩
    · exact hv
    · exact h.val r hr
theorem putR_get {l : List Row} (h : RightL l) {k v : List UInt8} (hk : k ≠ []) (k' : List UInt8) : getR (putR l k v) k' = if k' = k then v else getR l k' := by
  have hr := putR_right h (v := v) hk
  obtain ⟨h1, h2⟩ := putR_mem h.up k v
  by_cases e : k' = k
  · subst e
    rw [if_pos rfl]
    by_cases hv : v = []
    · subst hv
      exact getR_none fun r hr => by
        rcases (h2 r).1 hr with ⟨h, _⟩ | ⟨_, h⟩
        · exact absurd rfl h
        · exact h
    · exact hr.get (r := ⟨k', v⟩) ((h2 _).2 (.inl ⟨hv, rfl⟩))
  · rw [if_neg e]
    by_cases hg : getR l k' = []
    · rw [hg]
      refine getR_none fun r hr e2 => ?_
      rcases (h2 r).1 hr with ⟨_, rfl⟩ | ⟨hr, _⟩
      · exact e e2.symm
      · have := h.get hr; rw [e2, hg] at this; exact h.val r hr this.symm
    · obtain ⟨r, hr1, rfl, hr3⟩ := getR_ne hg
      rw [← hr3]
      exact hr.get ((h2 r).2 (.inr ⟨hr1, e⟩))

/-! What differs. -/
abbrev turnLt (r s : Turn) : Prop := lessB r.Key s.Key = true
structure TurnsOf (f g : Tab) (L : List Turn) : Prop where
  up : L.Pairwise turnLt
  mem : ∀ t, t ∈ L ↔ t.Old = f t.Key ∧ t.New = g t.Key ∧ t.Old ≠ t.New
theorem TurnsOf.unique {f g : Tab} {L M : List Turn} (h : TurnsOf f g L) (k : TurnsOf f g M) : L = M :=
  rise_ext (fun a b h1 h2 => by have := lessB_asym h1; unfold turnLt at h2; rw [this] at h2; cases h2) h.up k.up fun x => by rw [h.mem, k.mem]
theorem TurnsOf.same (f : Tab) : TurnsOf f f [] := ⟨.nil, fun t => ⟨fun h => (by cases h), fun ⟨h1, h2, h3⟩ => absurd (h1.trans h2.symm) h3⟩⟩
theorem TurnsOf.step {f g f' g' : Tab} {L : List Turn} {K va vb : List UInt8} (h : TurnsOf f' g' L) (hf : ∀ k, f k = if k = K then va else f' k) (hg : ∀ k, g k = if k = K then vb else g' k) (hK : f' K = g' K) (hlt : ∀ k, f' k ≠ g' k → lessB K k = true) :
    TurnsOf f g (if va = vb then L else ⟨K, va, vb⟩ :: L) := by
  have mem : ∀ t : Turn, (t.Old = f t.Key ∧ t.New = g t.Key ∧ t.Old ≠ t.New) ↔ (t ∈ L ∨ (va ≠ vb ∧ t = ⟨K, va, vb⟩)) := fun t => by
    rw [h.mem]
    by_cases e : t.Key = K
    · rw [hf, hg, if_pos e, if_pos e, e, hK]
      constructor
      · rintro ⟨h1, h2, h3⟩
        right
        refine ⟨by rw [← h1, ← h2]; exact h3, ?_⟩
        cases t; simp only at e h1 h2; rw [e, h1, h2]
      · rintro (⟨h1, h2, h3⟩ | ⟨h1, rfl⟩)
        · exact absurd (h1.trans h2.symm) h3
        · exact ⟨rfl, rfl, h1⟩
    · rw [hf, hg, if_neg e, if_neg e]
      constructor
      · exact .inl
      · rintro (h | ⟨_, rfl⟩)
        · exact h
        · exact absurd rfl e
  by_cases e : va = vb
  · rw [if_pos e]
    exact ⟨h.up, fun t => by rw [mem]; simp [e]⟩
  · rw [if_neg e]
    refine ⟨List.pairwise_cons.2 ⟨fun t ht => ?_, h.up⟩, fun t => by rw [mem, List.mem_cons]; simp [e, or_comm]⟩
    obtain ⟨h1, h2, h3⟩ := (h.mem t).1 ht
    exact hlt t.Key (by rw [← h1, ← h2]; exact h3)
def turnsM : List Row → List Row → List Turn
  | [], [] => []
  | a :: as1, [] => ⟨a.Key, a.Value, []⟩ :: turnsM as1 []
  | [], b :: bs => ⟨b.Key, [], b.Value⟩ :: turnsM [] bs
  | a :: as1, b :: bs => if cmpB a.Key b.Key < 0 then ⟨a.Key, a.Value, []⟩ :: turnsM as1 (b :: bs) else if 0 < cmpB a.Key b.Key then ⟨b.Key, [], b.Value⟩ :: turnsM (a :: as1) bs
    else if a.Value = b.Value then turnsM as1 bs else ⟨a.Key, a.Value, b.Value⟩ :: turnsM as1 bs
termination_by a b => a.length + b.length
theorem RightL.above {r : Row} {l : List Row} (h : RightL (r :: l)) {k : List UInt8} (hk : getR l k ≠ []) : lessB r.Key k = true := by
  obtain ⟨s, hs, rfl, _⟩ := getR_ne hk
  exact (List.pairwise_cons.1 h.up).1 s hs
theorem RightL.not_in {r : Row} {l : List Row} (h : RightL (r :: l)) {k : List UInt8} (hk : lessB r.Key k = false) : getR l k = [] := by
  cases e : getR l k with
  | nil => rfl
  | cons x y => have := h.above (k := k) (by rw [e]; simp); rw [hk] at this; cases this
theorem RightL.not_in' {r : Row} {l : List Row} (h : RightL (r :: l)) {k : List UInt8} (hk : lessB k r.Key = true) : getR (r :: l) k = [] := by
  rw [getR, if_neg fun e => by rw [e, lessB_irr] at hk; cases hk]
  exact h.not_in (lessB_asym hk)
theorem RightL.not_if {r : Row} {l : List Row} (h : RightL (r :: l)) {K : List UInt8} (hk : lessB K r.Key = true) (k : List UInt8) : getR (r :: l) k = if k = K then [] else getR (r :: l) k := by
  split
  · rename_i e; rw [e]; exact h.not_in' hk
  · rfl
theorem ne_or {x y : List UInt8} (h : x ≠ y) : x ≠ [] ∨ y ≠ [] := by
  by_cases e : x = []
  · exact .inr fun e2 => h (e.trans e2.symm)
  · exact .inl e
theorem turnsM_of : ∀ (a b : List Row), RightL a → RightL b → TurnsOf (getR a) (getR b) (turnsM a b)
  | [], [], _, _ => by rw [turnsM]; exact TurnsOf.same _
  | a :: as1, [], ha, hb => by
    rw [turnsM]
    have := (turnsM_of as1 [] ha.cons hb).step (f := getR (a :: as1)) (g := getR []) (K := a.Key) (va := a.Value) (vb := []) (fun k => getR_cons _ _ k) (fun k => by simp [getR]) (by rw [ha.not_in (lessB_irr _)]; rfl)
      (fun k hk => ha.above (fun e => hk (by rw [e]; rfl)))
    rwa [if_neg (ha.val a (by simp))] at this
  | [], b :: bs, ha, hb => by
    rw [turnsM]
    have := (turnsM_of [] bs ha hb.cons).step (f := getR []) (g := getR (b :: bs)) (K := b.Key) (va := []) (vb := b.Value) (fun k => by simp [getR]) (fun k => getR_cons _ _ k) (by rw [hb.not_in (lessB_irr _)]; rfl)
      (fun k hk => hb.above (fun e => hk (by rw [e]; rfl)))
    rwa [if_neg (Ne.symm (hb.val b (by simp)))] at this
  | a :: as1, b :: bs, ha, hb => by
    rw [turnsM]
    split
    · rename_i h
      have h := cmpB_neg.1 h
      have := (turnsM_of as1 (b :: bs) ha.cons hb).step (f := getR (a :: as1)) (g := getR (b :: bs)) (K := a.Key) (va := a.Value) (vb := []) (fun k => getR_cons _ _ k)
        (fun k => hb.not_if h k) (by rw [ha.not_in (lessB_irr _), hb.not_in' h])
        (fun k hk => by
          rcases ne_or hk with hk | hk
          · exact ha.above hk
          · obtain ⟨s, hs, rfl, _⟩ := getR_ne hk
            rcases List.mem_cons.1 hs with rfl | hs
            · exact h
            · exact lessB_trans h ((List.pairwise_cons.1 hb.up).1 s hs))
      rwa [if_neg (ha.val a (by simp))] at this
    · split
      · rename_i _ h
        have h := cmpB_pos.1 h
        have := (turnsM_of (a :: as1) bs ha hb.cons).step (f := getR (a :: as1)) (g := getR (b :: bs)) (K := b.Key) (va := []) (vb := b.Value) (fun k => ha.not_if h k)
          (fun k => getR_cons _ _ k) (by rw [hb.not_in (lessB_irr _), ha.not_in' h])
          (fun k hk => by
            rcases ne_or hk with hk | hk
            · obtain ⟨s, hs, rfl, _⟩ := getR_ne hk
              rcases List.mem_cons.1 hs with rfl | hs
              · exact h
              · exact lessB_trans h ((List.pairwise_cons.1 ha.up).1 s hs)
            · exact hb.above hk)
        rwa [if_neg (Ne.symm (hb.val b (by simp)))] at this
      · rename_i h1 h2
        have e : a.Key = b.Key := cmpB_zero.1 (by omega)
        exact (turnsM_of as1 bs ha.cons hb.cons).step (f := getR (a :: as1)) (g := getR (b :: bs)) (K := a.Key) (va := a.Value) (vb := b.Value) (fun k => getR_cons _ _ k)
          (fun k => by rw [e]; exact getR_cons b bs k) (by rw [ha.not_in (lessB_irr _), e, hb.not_in (lessB_irr _)])
          (fun k hk => by
            rcases ne_or hk with hk | hk
            · exact ha.above hk
            · rw [e]; exact hb.above hk)
termination_by a b => a.length + b.length
theorem turnsM_len : ∀ (a b : List Row), (turnsM a b).length ≤ a.length + b.length
  | [], [] => by rw [turnsM]; simp
  | a :: as1, [] => by rw [turnsM]; have := turnsM_len as1 []; simp at *; omega
  | [], b :: bs => by rw [turnsM]; have := turnsM_len [] bs; simp at *; omega
  | a :: as1, b :: bs => by
    rw [turnsM]
    have h1 := turnsM_len as1 (b :: bs); have h2 := turnsM_len (a :: as1) bs; have h3 := turnsM_len as1 bs
    repeat' split
    all_goals (simp at *; omega)
termination_by a b => a.length + b.length
def turnsP (a b : List Row) : List Turn := if !rightR a || !rightR b then [] else turnsM a b
/-- The document's keys. -/
def keysU (ks l : List Row) : List Row := l.foldl (fun ks r => putR ks r.Key [1]) ks
theorem keysU_spec : ∀ (l : List Row) {ks : List Row}, RightL ks → (∀ r ∈ l, r.Key ≠ []) → RightL (keysU ks l) ∧ ∀ k, getR (keysU ks l) k ≠ [] ↔ (getR ks k ≠ [] ∨ ∃ r ∈ l, r.Key = k)
  | [], ks, h, _ => ⟨h, fun k => by simp [keysU]⟩
  | r :: l, ks, h, hk => by
    have h' := putR_right h (v := [1]) (hk r (by simp))
    obtain ⟨i1, i2⟩ := keysU_spec l h' fun s hs => hk s (List.mem_cons_of_mem _ hs)
    refine ⟨i1, fun k => (i2 k).trans ?_⟩
    rw [putR_get h (hk r (by simp))]
    by_cases e : k = r.Key
    · subst e; simp
    · simp [e, Ne.symm e]
def turnsK (a b : List Row) (ks : List Row) : List Turn := ks.filterMap fun r => if getR a r.Key = getR b r.Key then none else some ⟨r.Key, getR a r.Key, getR b r.Key⟩
def turnsR (a b : List Row) : List Turn := if !rightR a || !rightR b then [] else turnsK a b (keysU (keysU [] a) b)
theorem turnsK_of {a b : List Row} (ha : RightL a) (hb : RightL b) : TurnsOf (getR a) (getR b) (turnsK a b (keysU (keysU [] a) b)) := by
  obtain ⟨h1, h2⟩ := keysU_spec a RightL.nil ha.key
  obtain ⟨h3, h4⟩ := keysU_spec b h1 hb.key
  have hin : ∀ k, getR a k ≠ getR b k → ∃ r ∈ keysU (keysU [] a) b, r.Key = k := fun k hk => by
    have : getR (keysU (keysU [] a) b) k ≠ [] := (h4 k).2 (by
      rcases ne_or hk with hk | hk
      · obtain ⟨s, hs, e, _⟩ := getR_ne hk; exact .inl ((h2 k).2 (.inr ⟨s, hs, e⟩))
      · obtain ⟨s, hs, e, _⟩ := getR_ne hk; exact .inr ⟨s, hs, e⟩)
    obtain ⟨r, hr, e, _⟩ := getR_ne this
    exact ⟨r, hr, e⟩
  refine ⟨?_, fun t => ?_⟩
  · unfold turnsK
    rw [List.pairwise_filterMap]
    refine h3.up.imp fun {r s} hrs t ht u hu => ?_
    split at ht
    · cases ht
    · split at hu
      · cases hu
      · cases ht; cases hu; exact hrs
  · unfold turnsK
    rw [List.mem_filterMap]
    constructor
    · rintro ⟨r, hr, h⟩
      split at h
      · cases h
      · rename_i hne; cases h; exact ⟨rfl, rfl, hne⟩
    · rintro ⟨h1, h2, h3⟩
      rw [h1, h2] at h3
      obtain ⟨r, hr, e⟩ := hin _ h3
      refine ⟨r, hr, ?_⟩
      rw [e, if_neg h3]
      cases t; simp only at h1 h2 ⊢; rw [← h1, ← h2]
theorem turnsP_eq (a b : List Row) : turnsP a b = turnsR a b := by
  unfold turnsP turnsR
  split
  · rfl
  · rename_i h
    simp only [Bool.or_eq_true, Bool.not_eq_true', not_or, Bool.not_eq_false] at h
    have ha := rightR_iff.1 h.1; have hb := rightR_iff.1 h.2
    exact (turnsM_of a b ha hb).unique (turnsK_of ha hb)

/-! Rows are turned. -/
def goA : List Row → List Turn → Option (List Row)
  | out, [] => some out
  | out, t :: ts => if t.Key = [] ∨ getR out t.Key ≠ t.Old then none else goA (putR out t.Key t.New) ts
def applyR (l : List Row) (t : List Turn) : Option (List Row) := if rightR l then goA l t else none
def goF : Tab → List Turn → Option Tab
  | f, [] => some f
  | f, t :: ts => if t.Key = [] ∨ f t.Key ≠ t.Old then none else goF (fun k => if k = t.Key then t.New else f k) ts
theorem goA_goF : ∀ (ts : List Turn) {out : List Row}, RightL out → (goA out ts = none → goF (getR out) ts = none) ∧ ∀ m, goA out ts = some m → RightL m ∧ goF (getR out) ts = some (getR m)
  | [], out, h => ⟨fun e => (by cases e), fun m e => (by cases e; exact ⟨h, rfl⟩)⟩
  | t :: ts, out, h => by
    rw [goA, goF]
    by_cases e : t.Key = [] ∨ getR out t.Key ≠ t.Old
    · rw [if_pos e, if_pos e]; exact ⟨fun _ => rfl, fun m e => (by cases e)⟩
    · rw [if_neg e, if_neg e]
      have hk : t.Key ≠ [] := fun x => e (.inl x)
      have := goA_goF ts (putR_right h (v := t.New) hk)
      rw [show getR (putR out t.Key t.New) = fun k => if k = t.Key then t.New else getR out k from funext (putR_get h hk)] at this
      exact this
theorem goF_append : ∀ (s t : List Turn) (f : Tab), goF f (s ++ t) = (goF f s).bind fun g => goF g t
  | [], t, f => rfl
  | x :: s, t, f => by
    rw [List.cons_append, goF, goF]
    split
    · rfl
    · exact goF_append s t _
def backR (t : List Turn) : List Turn := (t.map fun x => ⟨x.Key, x.New, x.Old⟩).reverse
theorem goF_back : ∀ (ts : List Turn) {f g : Tab}, goF f ts = some g → goF g (backR ts) = some f
  | [], f, g, h => by cases h; rfl
  | t :: ts, f, g, h => by
    rw [goF] at h
    split at h
    · cases h
    · rename_i e
      have ih := goF_back ts h
      have hb : backR (t :: ts) = backR ts ++ [⟨t.Key, t.New, t.Old⟩] := by simp [backR]
      rw [hb, goF_append, ih]
      simp only [Option.bind_some, goF]
      have hk : t.Key ≠ [] := fun x => e (.inl x)
      have ho : f t.Key = t.Old := Classical.byContradiction fun x => e (.inr x)
      rw [if_neg (by simp [hk])]
      congr 1
      funext k
      by_cases ek : k = t.Key
      · subst ek; simp [ho]
      · simp [ek]
theorem goF_all : ∀ (ts : List Turn) {f g : Tab}, ts.Pairwise turnLt → (∀ t ∈ ts, t.Key ≠ [] ∧ t.Old = f t.Key ∧ t.New = g t.Key) → (∀ k, f k ≠ g k → ∃ t ∈ ts, t.Key = k) → goF f ts = some g
  | [], f, g, _, _, h => by
    rw [goF]; congr 1; funext k
    exact Classical.byContradiction fun e => by obtain ⟨t, ht, _⟩ := h k e; cases ht
  | t :: ts, f, g, hp, hm, h => by
    rw [goF]
    obtain ⟨h1, h2, h3⟩ := hm t (by simp)
    rw [if_neg (by simp [h1, h2])]
    obtain ⟨p1, p2⟩ := List.pairwise_cons.1 hp
    refine goF_all ts p2 (fun u hu => ?_) fun k hk => ?_
    · obtain ⟨k1, k2, k3⟩ := hm u (List.mem_cons_of_mem _ hu)
      refine ⟨k1, ?_, k3⟩
      have : u.Key ≠ t.Key := Ne.symm (lessB_ne (p1 u hu))
      simp [this, k2]
    · by_cases e : k = t.Key
      · simp [e, h3] at hk
      · simp only [e, if_false] at hk
        obtain ⟨u, hu, rfl⟩ := h k hk
        rcases List.mem_cons.1 hu with rfl | hu
        · exact absurd rfl e
        · exact ⟨u, hu, rfl⟩
theorem goF_turns {a b : List Row} (ha : RightL a) (hb : RightL b) : goF (getR a) (turnsM a b) = some (getR b) := by
  have ht := turnsM_of a b ha hb
  have hk : ∀ k, getR a k ≠ getR b k → k ≠ [] := fun k hk => by
    rcases ne_or hk with hk | hk
    · obtain ⟨s, hs, rfl, _⟩ := getR_ne hk; exact ha.key s hs
    · obtain ⟨s, hs, rfl, _⟩ := getR_ne hk; exact hb.key s hs
  refine goF_all _ ht.up (fun t h => ?_) fun k h => ?_
  · obtain ⟨h1, h2, h3⟩ := (ht.mem t).1 h
    exact ⟨hk _ (by rw [← h1, ← h2]; exact h3), h1, h2⟩
  · exact ⟨⟨k, getR a k, getR b k⟩, (ht.mem _).2 ⟨rfl, rfl, h⟩, rfl⟩
/-- What tables say of rows. -/
theorem applyR_some {a b : List Row} {t : List Turn} (ha : RightL a) (hb : RightL b) (h : goF (getR a) t = some (getR b)) : applyR a t = some b := by
  unfold applyR
  rw [if_pos (rightR_iff.2 ha)]
  cases e : goA a t with
  | none => have := (goA_goF t ha).1 e; rw [h] at this; cases this
  | some m =>
    obtain ⟨h1, h2⟩ := (goA_goF t ha).2 m e
    rw [h] at h2
    rw [hb.ext h1 fun k => congrFun (Option.some.inj h2) k]
theorem applyR_tab {a m : List Row} {t : List Turn} (h : applyR a t = some m) : RightL a ∧ RightL m ∧ goF (getR a) t = some (getR m) := by
  unfold applyR at h
  split at h
  · rename_i hr
    have ha := rightR_iff.1 hr
    obtain ⟨h1, h2⟩ := (goA_goF t ha).2 m h
    exact ⟨ha, h1, h2⟩
  · cases h
theorem turnsP_right {a b : List Row} (ha : RightL a) (hb : RightL b) : turnsP a b = turnsM a b := by
  unfold turnsP; rw [rightR_iff.2 ha, rightR_iff.2 hb]; rfl
theorem apply_turns {a b : List Row} (ha : RightL a) (hb : RightL b) : applyR a (turnsP a b) = some b := by
  rw [turnsP_right ha hb]; exact applyR_some ha hb (goF_turns ha hb)
theorem apply_back {a b : List Row} (ha : RightL a) (hb : RightL b) : applyR b (backR (turnsP a b)) = some a := by
  rw [turnsP_right ha hb]; exact applyR_some hb ha (goF_back _ (goF_turns ha hb))
theorem apply_undo {l m : List Row} {t : List Turn} (h : applyR l t = some m) : applyR m (backR t) = some l := by
  obtain ⟨h1, h2, h3⟩ := applyR_tab h
  exact applyR_some h2 h1 (goF_back _ h3)
end Go.Ab

/- What is told: residuals: what each function does in the abstract memory, printed by a program of mine. Definitions alone. -/
set_option linter.unusedVariables false
namespace Go.Ab
end Go.Ab

/- What is proved: contracts of windows' functions. No conditions. -/
set_option linter.unusedVariables false
namespace Go.Ab
variable {C : CSem} {N : Nat → Nat}

def Window.right (w : Window) : Bool := decide (0 ≤ w.From) && decide (w.From ≤ w.Until) && decide (w.Until ≤ 4001)

def Window.zero : Window := ⟨0, 0⟩
def within (a b : Int) : Window × Bool := if b ≤ a then (.zero, false) else (⟨a, b⟩, true)
end Go.Ab

/- What is told: residuals: what each function does in the abstract memory, printed by a program of mine. Definitions alone. -/
set_option linter.unusedVariables false
namespace Go.Ab
end Go.Ab

/- What is told: residuals: what each function does in the abstract memory, printed by a program of mine. Definitions alone. -/
set_option linter.unusedVariables false
namespace Go.Ab
end Go.Ab

/- What is told: residuals: what each function does in the abstract memory, printed by a program of mine. Definitions alone. -/
set_option linter.unusedVariables false
namespace Go.Ab
end Go.Ab

/- What is told: residuals: what each function does in the abstract memory, printed by a program of mine. Definitions alone. -/
set_option linter.unusedVariables false
namespace Go.Ab
end Go.Ab

/- What is told: residuals: what each function does in the abstract memory, printed by a program of mine. Definitions alone. -/
set_option linter.unusedVariables false
namespace Go.Ab
end Go.Ab

/- What is proved: contracts of answers' functions, the program's and the document's: are they right, their bytes. No conditions. -/
set_option linter.unusedVariables false
set_option linter.unusedSimpArgs false
namespace Go.Ab
variable {C : CSem} {N : Nat → Nat}

def lotRight (l : Lot) : Bool := decide (0 < l.Id) && codeRight l.Item && Window.right ⟨l.From, l.Until⟩ && decide (l.From < l.Until) && decide (0 < l.Qty) && decide (l.Qty ≤ 1073741824)
def useRight (u : Use) : Bool := decide (0 ≤ u.Want) && decide (1 ≤ u.Lot) && decide (1 ≤ u.Qty)
/-! Numbers as bytes. -/
/-- n in so many bytes, the highest first. -/
def be (n : Int) : Nat → List UInt8
  | 0 => []
  | k + 1 => byt (n.fdiv (2 ^ (8 * k))) :: be n k
@[simp] theorem be_len (n : Int) : ∀ k, (be n k).length = k
  | 0 => rfl
  | k + 1 => by simp [be, be_len n k]
/-! Answers. -/
def TellP.head (t : TellP) : Bool := !(decide (t.Id < 0) || decide (t.Day < -1) || decide (4000 < t.Day) || !decide (t.Code = []) && !codeRight t.Code || decide (3 < (t.State.toNat : Int)) || decide (300 < (t.Lots.length : Int)) || decide (2000 < (t.Uses.length : Int)))
def TellP.full (t : TellP) : Bool := t.head && t.Lots.all lotRight && t.Uses.all useRight
end Go.Ab

/- What is proved: contracts of windows' functions. No conditions. -/
set_option linter.unusedVariables false
namespace Go.Ab
variable {C : CSem} {N : Nat → Nat}

/-! Rows. -/
end Go.Ab

/- What is proved: stable orders, by ghost numbers. No conditions. -/
namespace Go.Ab
/-! Stable orders. -/
structure Weak {T : Type} (less : T → T → Bool) : Prop where
  asym : ∀ {a b}, less a b = true → less b a = false
  ntrans : ∀ {a b c}, less a b = false → less b c = false → less a c = false
section
variable {T : Type} {less : T → T → Bool}
theorem Weak.irr (W : Weak less) (a : T) : less a a = false := by
  cases h : less a a with
  | false => rfl
  | true => have := W.asym h; rw [h] at this; cases this
theorem Weak.trans (W : Weak less) {a b c : T} (h1 : less a b = true) (h2 : less b c = true) : less a c = true := by
  cases h : less a c with
  | true => rfl
  | false => have := W.ntrans h (W.asym h2); rw [h1] at this; cases this
/-- Ahead, or alike and of a smaller number. -/
def lt' (less : T → T → Bool) (x y : T × Nat) : Prop := less x.1 y.1 = true ∨ (less y.1 x.1 = false ∧ x.2 < y.2)
theorem lt'_trans (W : Weak less) {x y z : T × Nat} (h1 : lt' less x y) (h2 : lt' less y z) : lt' less x z := by
  unfold lt' at *
  rcases h1 with h1 | ⟨h1, n1⟩ <;> rcases h2 with h2 | ⟨h2, n2⟩
  · exact .inl (W.trans h1 h2)
  · left
    cases h : less x.1 z.1 with
    | true => rfl
    | false => have := W.ntrans h h2; rw [h1] at this; cases this
  · left
    cases h : less x.1 z.1 with
    | true => rfl
    | false => have := W.ntrans h1 h; rw [h2] at this; cases this
  · exact .inr ⟨W.ntrans h2 h1, by omega⟩
theorem lt'_asym (W : Weak less) {x y : T × Nat} (h1 : lt' less x y) (h2 : lt' less y x) : False := by
  have := lt'_trans W h1 h2
  unfold lt' at this
  rcases this with h | ⟨_, h⟩
  · rw [W.irr] at h; cases h
  · omega
theorem lt'_gt {x y : T × Nat} (hn : y.2 < x.2) : lt' less x y ↔ less x.1 y.1 = true := ⟨fun h => h.elim id fun ⟨_, h⟩ => by omega, .inl⟩
theorem lt'_le (W : Weak less) {x y : T × Nat} (hn : x.2 < y.2) : lt' less x y ↔ less y.1 x.1 = false :=
  ⟨fun h => h.elim (fun h => W.asym h) fun ⟨h, _⟩ => h, fun h => .inr ⟨h, hn⟩⟩
/-- S is L in stable order. -/
def StableSort (less : T → T → Bool) (L S : List T) : Prop := ∃ G : List (T × Nat), G.map (·.1) = S ∧ G.Perm L.zipIdx ∧ G.Pairwise (lt' less)
theorem StableSort.unique (W : Weak less) {L S S' : List T} (h : StableSort less L S) (k : StableSort less L S') : S = S' := by
  obtain ⟨G, rfl, p, s⟩ := h
  obtain ⟨H, rfl, q, t⟩ := k
  have := List.Perm.eq_of_pairwise (le := lt' less) (fun a b _ _ h1 h2 => (lt'_asym W h1 h2).elim) s t (p.trans q.symm)
  rw [this]
theorem StableSort.perm {L S : List T} (h : StableSort less L S) : S.Perm L := by
  obtain ⟨G, rfl, p, _⟩ := h
  have := p.map (·.1)
  simpa using this
end
end Go.Ab

/- What is proved: elements of one's own list loaded, stored, exchanged; numbers. No conditions. -/
set_option linter.unusedVariables false
set_option linter.unusedSimpArgs false
namespace Go.Ab
variable {C : CSem} {N : Nat → Nat}

/-! Numbers. -/
theorem add1 {a : Nat} (h : a < 4611686018427387904) : V.bin .add (.int .i64 (a : Int)) (.int .i64 1) = some (.int .i64 ((a + 1 : Nat) : Int)) := by
  rw [V.bin_add, wrap_i64 (by omega) (by omega)]; simp
theorem sub1 {a : Nat} (h : 1 ≤ a) (ha : a < 4611686018427387904) : V.bin .sub (.int .i64 (a : Int)) (.int .i64 1) = some (.int .i64 ((a - 1 : Nat) : Int)) := by
  rw [V.bin_sub, wrap_i64 (by omega) (by omega)]; congr 2; omega
theorem lssN {a b : Nat} : V.bin .lss (.int .i64 (a : Int)) (.int .i64 (b : Int)) = some (.bool (decide (a < b))) := by rw [V.bin_lss]; congr 3; exact propext (by omega)
theorem leqN {a b : Nat} : V.bin .leq (.int .i64 (a : Int)) (.int .i64 (b : Int)) = some (.bool (decide (a ≤ b))) := by rw [V.bin_leq]; congr 3; exact propext (by omega)
theorem gtrN {a b : Nat} : V.bin .gtr (.int .i64 (a : Int)) (.int .i64 (b : Int)) = some (.bool (decide (b < a))) := by rw [V.bin_gtr]; congr 3; exact propext (by omega)
/-- What is asked of the elements of a list: their cells, how they are loaded and stored. -/
structure SeqSpec (E : ElOps) {X : Type} (cs : X → List AVal) (v : X → AVal) : Prop where
  pos : 0 < E.es
  small : E.bytes ≤ 1000
  zlen : E.z.length = E.es
  len : ∀ t, (cs t).length = E.es
  new : ∀ t, fillL [(0, E.kp, v t)] (repL 1 E.z) = some (cs t)
  ld : ∀ {h : AHeap} {x : AVal} {L R : List (List AVal)} {i : Nat} {t : X} {K : AVal → Prop}, SlX h E.es x L R → L[i]? = some (cs t) → K (v t) → E.ld h (elp E.es x i 0) K
  kpt : ∀ {h : AHeap} {x : AVal} {L R : List (List AVal)} {i : Nat} {t : X}, SlX h E.es x L R → L[i]? = some (cs t) → Kp h (elp E.es x i 0) E.kp
  st : ∀ {h0 h : AHeap} {x : AVal} {L R : List (List AVal)} {i : Nat} {c : List AVal} {t : X} {K : AHeap → Prop}, Owns h0 h [.sl E.es x L R] → L[i]? = some c →
    (∀ h', Owns h0 h' [.sl E.es x (L.set i (cs t)) R] → K h') → E.st h (elp E.es x i 0) (v t) K
theorem SeqSpec.comp {E : ElOps} {X Y : Type} {cs : X → List AVal} {v : X → AVal} (S : SeqSpec E cs v) (f : Y → X) : SeqSpec E (fun y => cs (f y)) (fun y => v (f y)) :=
  ⟨S.pos, S.small, S.zlen, fun t => S.len _, fun t => S.new _, fun h1 h2 h3 => S.ld h1 h2 h3, fun h1 h2 => S.kpt h1 h2, fun h1 h2 h3 => S.st h1 h2 h3⟩
theorem seqF {X : Type} {es bytes f : Nat} {z : List AVal} {sh : List Ck} {cs : X → List AVal} (hp : 0 < es) (hb : bytes ≤ 1000) (hz : z.length = es) (hl : ∀ t, (cs t).length = es) : SeqSpec (opsF es bytes z f sh) cs (fun t => .agg (cs t)) where
  pos := hp
  small := hb
  zlen := hz
  len := hl
  new t := by
    have hrep : repL 1 z = z := by unfold repL; split <;> simp
    have h1 := hl t
    show fillL [(0, some es, AVal.agg (cs t))] (repL 1 z) = _
    rw [hrep]
    simp [h1, hz]
  ld hs hc hk := by
    simp only [opsF, B.ldn_eq] at hs ⊢
    rw [hs.elem hc]; exact hk
  kpt hs hc := ⟨_, hs.elem hc⟩
  st ho hc hk := ho.stElem 0 rfl hc (hl _) fun h' h1 _ => hk h' h1
theorem seqS {X : Type} {bytes f : Nat} {z : AVal} {v : X → AVal} (hb : bytes ≤ 1000) (hc : ∀ t, (v t).isCell = true) : SeqSpec (opsS bytes z f) (fun t => [v t]) v where
  pos := Nat.one_pos
  small := hb
  zlen := rfl
  len _ := rfl
  new t := by simp [opsS, hc, repL]
  ld hs hcc hk := by
    simp only [opsS, B.ld_eq] at hs ⊢
    rw [hs.cell hcc]; exact hk
  kpt hs hcc := ⟨_, hs.cell hcc⟩
  st {h0 h x L R i c t K} ho hcc hk := by
    have hs : SlX h 1 x L R := ho.slAt 0 rfl
    have hcl : c.length = 1 := hs.len c (List.mem_append_left _ (List.mem_of_getElem? hcc))
    obtain ⟨u, rfl⟩ := List.length_eq_one_iff.1 hcl
    exact ho.st 0 rfl hcc (by show 0 < 1; omega) (hc _) fun h' h1 _ => hk h' h1

/-- A list of one's own, element by element. -/
def Rw (E : ElOps) {X : Type} (cs : X → List AVal) (h0 h : AHeap) (x : AVal) (G : List X) (R : List (List AVal)) : Prop := Owns h0 h [.sl E.es x (G.map cs) R]
section
variable {E : ElOps} {X : Type} {cs : X → List AVal} {v : X → AVal} {h0 h : AHeap} {x : AVal} {G : List X} {R : List (List AVal)}
theorem Rw.idx (ho : Rw E cs h0 h x G R) {i : Nat} (hi : i < G.length) : V.idxS E.es x (.int .i64 (i : Int)) = some (elp E.es x i 0) := (Owns.slAt ho 0 rfl).idxN (by simpa using hi)
theorem Rw.lenE (ho : Rw E cs h0 h x G R) : V.lenSl x = some (.int .i64 G.length) := by have := (Owns.slAt ho 0 rfl).lenSl; simpa using this
theorem Rw.le (ho : Rw E cs h0 h x G R) : h0.le h := Owns.le ho
theorem Rw.ld (ho : Rw E cs h0 h x G R) (S : SeqSpec E cs v) {i : Nat} {t : X} (hg : G[i]? = some t) {K : AVal → Prop} (hk : K (v t)) : E.ld h (elp E.es x i 0) K :=
  S.ld (Owns.slAt ho 0 rfl) (by rw [List.getElem?_map, hg]; rfl) hk
theorem Rw.st (ho : Rw E cs h0 h x G R) (S : SeqSpec E cs v) {i : Nat} {t : X} (hi : i < G.length) {K : AHeap → Prop} (hk : ∀ h', Rw E cs h0 h' x (G.set i t) R → K h') : E.st h (elp E.es x i 0) (v t) K :=
  S.st ho (c := cs G[i]) (by rw [List.getElem?_map, List.getElem?_eq_getElem hi]; rfl) fun h' h1 => hk h' (by unfold Rw; rwa [List.map_set])
theorem set_mid {P Q : List X} {a b : X} {i : Nat} (hi : i = P.length) : (P ++ a :: Q).set i b = P ++ b :: Q := by subst hi; simp
theorem get_mid {P Q : List X} {a : X} {i : Nat} (hi : i = P.length) : (P ++ a :: Q)[i]? = some a := by subst hi; simp
theorem set_mid2 {P Q T : List X} {a b c : X} {j : Nat} (hj : j = P.length + 1 + Q.length) : (P ++ a :: (Q ++ b :: T)).set j c = P ++ a :: (Q ++ c :: T) := by
  have := set_mid (P := P ++ a :: Q) (Q := T) (a := b) (b := c) (i := j) (by simp; omega)
  simpa using this
theorem get_mid2 {P Q T : List X} {a b : X} {j : Nat} (hj : j = P.length + 1 + Q.length) : (P ++ a :: (Q ++ b :: T))[j]? = some b := by
  have := get_mid (P := P ++ a :: Q) (Q := T) (a := b) (i := j) (by simp; omega)
  simpa using this
theorem Rw.swapDn {P Q T : List X} {a b : X} {i j : Nat} (ho : Rw E cs h0 h x (P ++ a :: (Q ++ b :: T)) R) (S : SeqSpec E cs v) (hi : i = P.length) (hj : j = P.length + 1 + Q.length) {K : AHeap → Prop}
    (hk : ∀ h', Rw E cs h0 h' x (P ++ b :: (Q ++ a :: T)) R → K h') : E.st h (elp E.es x j 0) (v a) fun h => E.st h (elp E.es x i 0) (v b) K := by
  refine ho.st S (by simp; omega) fun h1 o1 => ?_
  rw [set_mid2 hj] at o1
  refine o1.st S (by simp; omega) fun h2 o2 => hk h2 ?_
  rwa [set_mid hi] at o2
end

/-- A comparison that leaves the memory. -/
structure CmpSpec (C : CSem) {X : Type} (v : X → AVal) (c : X → X → Int) (f : AVal) (h0 : AHeap) : Prop where
  call : ∀ (h : AHeap) (a b : X) (K : AVal → AHeap → Prop), h0.le h → K (.int .i64 (c a b)) h → B.callv h C f [v a, v b] K

section
variable {E : ElOps} {T : Type} {cs : T → List AVal} {v : T → AVal} {c : T → T → Int} {h0 h : AHeap} {x f : AVal} {R : List (List AVal)} {Q : AVal → AHeap → Prop}
/-- Ahead, by a comparison's answer. -/
def lessC (c : T → T → Int) (a b : T) : Bool := decide (c a b < 0)

theorem nil_or_snoc {X : Type} (L : List X) : L = [] ∨ ∃ L0 y, L = L0 ++ [y] := by
  rcases List.eq_nil_or_concat L with h | ⟨A, b, h⟩
  · exact .inl h
  · exact .inr ⟨A, b, by rw [h, List.concat_eq_append]⟩
/-- Insertion sort, stable. -/
theorem insertionSort_spec (S : SeqSpec E cs v) (W : Weak (lessC c)) {P M U : List (T × Nat)} (hlen : (P ++ (M ++ U)).length ≤ 100000000) (ht : M.Pairwise fun a b => a.2 < b.2)
    (hc : CmpSpec C v c f h0) {a b : Nat} (ha : a = P.length) (hb : b = P.length + M.length) (ho : Rw E (fun p : T × Nat => cs p.1) h0 h x (P ++ (M ++ U)) R)
    (hq : ∀ h' M', M'.Perm M → M'.Pairwise (lt' (lessC c)) → Rw E (fun p : T × Nat => cs p.1) h0 h' x (P ++ (M' ++ U)) R → Q (.tup []) h') :
    slices_insertionSortCmpFuncG.cps C E x (.int .i64 (a : Int)) (.int .i64 (b : Int)) f h Q := by
  have S' := S.comp (fun p : T × Nat => p.1)
  subst ha
  have hlen' : P.length + M.length + U.length ≤ 100000000 := by simpa [Nat.add_assoc] using hlen
  simp -dsimp only [slices_insertionSortCmpFuncG.cps, add1 (show P.length < 4611686018427387904 by omega), B.pv_some]
  cases M with
  | nil =>
    intro Y hY
    refine hY _ _ ?_
    simp -dsimp only [slices_insertionSortCmpFuncG.l3, lssN, B.pv_some]
    rw [show decide (P.length + 1 < b) = false by simp at hb ⊢; omega, B.cond_false]
    exact hq h [] (List.Perm.refl _) .nil ho
  | cons m M1 =>
  simp only [List.length_cons] at hlen' hb
  rw [List.pairwise_cons] at ht
  refine LoopR.intro (fun t vs hh => ∃ (i : Nat) (L M2 : List (T × Nat)), t = M2.length ∧ vs = [.int .i64 i] ∧ i = P.length + L.length ∧ i + M2.length = b ∧ Rw E (fun p : T × Nat => cs p.1) h0 hh x (P ++ (L ++ (M2 ++ U))) R ∧
    (L ++ M2).Perm (m :: M1) ∧ L.Pairwise (lt' (lessC c)) ∧ M2.Pairwise (fun a b => a.2 < b.2) ∧ ∀ p ∈ L, ∀ q ∈ M2, p.2 < q.2) M1.length ?_
    ⟨P.length + 1, [m], M1, rfl, rfl, by simp, by omega, by simpa using ho, List.Perm.refl _, List.pairwise_singleton .., ht.2, by simpa using ht.1⟩
  rintro Y t vs hh ⟨i, L, M2, rfl, rfl, hi, hib, o, hp, hs, ht2, htt⟩ hY
  simp -dsimp only [slices_insertionSortCmpFuncG.l3, lssN, B.pv_some]
  cases M2 with
  | nil =>
    rw [show decide (i < b) = false by simp at hib ⊢; omega, B.cond_false]
    rw [List.append_nil] at hp
    exact hq hh L hp hs o
  | cons x0 M2 =>
    simp only [List.length_cons] at hib
    rw [show decide (i < b) = true by simp; omega, B.cond_true]
    rw [List.pairwise_cons] at ht2
    have hll : P.length + (L.length + (M2.length + 1)) = b := by omega
    refine LoopR.intro (fun t vs h2 => ∃ (L1 L2 : List (T × Nat)), t = L1.length ∧ vs = [.int .i64 ((P.length + L1.length : Nat) : Int)] ∧ L = L1 ++ L2 ∧ Rw E (fun p : T × Nat => cs p.1) h0 h2 x (P ++ (L1 ++ x0 :: (L2 ++ (M2 ++ U)))) R ∧
      ∀ q ∈ L2, lt' (lessC c) x0 q) L.length ?_ ⟨L, [], rfl, by rw [hi], by simp, by simpa using o, by simp⟩
    rintro Z t vs h2 ⟨L1, L2, rfl, rfl, rfl, o2, hx⟩ hZ
    rw [List.pairwise_append] at hs
    have fin : (L1 = [] ∨ ∃ L0 y, L1 = L0 ++ [y] ∧ lt' (lessC c) y x0) → Y [.int .i64 ((i + 1 : Nat) : Int)] h2 := fun hz => by
      have hlow : ∀ p ∈ L1, lt' (lessC c) p x0 := by
        rcases hz with rfl | ⟨L0, y, rfl, hy⟩
        · simp
        · intro p hpm
          rcases List.mem_append.1 hpm with h1 | h1
          · exact lt'_trans W ((List.pairwise_append.1 hs.1).2.2 p h1 y (by simp)) hy
          · rw [List.mem_singleton.1 h1]; exact hy
      refine hY M2.length _ _ (by simp) ⟨i + 1, L1 ++ x0 :: L2, M2, rfl, rfl, by simp at hi ⊢; omega, by omega, by simpa using o2, ?_, ?_, ht2.2, ?_⟩
      · refine List.Perm.trans ?_ hp
        simp only [List.append_assoc, List.cons_append]
        refine List.Perm.append_left _ ?_
        exact (List.perm_middle (l₁ := L2) (l₂ := M2) (a := x0)).symm
      · rw [List.pairwise_append, List.pairwise_cons]
        refine ⟨hs.1, ⟨hx, hs.2.1⟩, fun p h1 q h2 => ?_⟩
        rcases List.mem_cons.1 h2 with rfl | h2
        · exact hlow p h1
        · exact hs.2.2 p h1 q h2
      · intro p h1 q h2
        rcases List.mem_append.1 h1 with h1 | h1
        · exact htt p (List.mem_append_left _ h1) q (List.mem_cons_of_mem _ h2)
        · rcases List.mem_cons.1 h1 with rfl | h1
          · exact ht2.1 q h2
          · exact htt p (List.mem_append_right _ h1) q (List.mem_cons_of_mem _ h2)
    have hll2 : i = P.length + (L1.length + L2.length) := by simpa using hi
    simp -dsimp only [slices_insertionSortCmpFuncG.l2, slices_insertionSortCmpFuncG.k1, gtrN, B.pv_some]
    obtain rfl | ⟨L0, y, rfl⟩ := nil_or_snoc L1
    · simp -dsimp [add1 (show i < 4611686018427387904 by omega)]
      exact fin (.inl rfl)
    · have hyx : y.2 < x0.2 := htt y (by simp) x0 (by simp)
      have o2' := o2
      simp only [List.append_assoc, List.cons_append, List.nil_append] at o2'
      simp only [List.length_append, List.length_singleton] at hll2 hlen' hll
      have hj : P.length + (L0 ++ [y]).length = P.length + L0.length + 1 := by simp [Nat.add_assoc]
      rw [show decide (P.length < P.length + (L0 ++ [y]).length) = true by simp]
      rw [hj]
      simp -dsimp only [B.gd_t, B.gdb_pure, B.gdb_true, gv_true, sub1 (show 1 ≤ P.length + L0.length + 1 by omega) (by omega), Nat.add_sub_cancel, o2.idx (i := P.length + L0.length + 1) (by simp; omega), o2.idx (i := P.length + L0.length) (by simp), B.pv_some]
      have o3 : Rw E (fun p : T × Nat => cs p.1) h0 h2 x ((P ++ L0) ++ y :: ([] ++ x0 :: (L2 ++ (M2 ++ U)))) R := by simpa using o2
      have gy : ((P ++ L0) ++ y :: ([] ++ x0 :: (L2 ++ (M2 ++ U))))[P.length + L0.length]? = some y := get_mid (by simp)
      have gx : ((P ++ L0) ++ y :: ([] ++ x0 :: (L2 ++ (M2 ++ U))))[P.length + L0.length + 1]? = some x0 := get_mid2 (by simp)
      refine o3.ld S' gx ?_
      refine o3.ld S' gy ?_
      refine hc.call _ _ _ _ o2.le ?_
      simp -dsimp only [B.gd_t, B.gdb_pure, B.gdb_true, gv_true, V.bin_lss, B.pv_some, B.pick_t]
      refine B.cond_bool (fun hb2 => ?_) (fun hb2 => ?_)
      · simp -dsimp only [sub1 (show 1 ≤ P.length + L0.length + 1 by omega) (by omega), Nat.add_sub_cancel, o2.idx (i := P.length + L0.length + 1) (by simp; omega), o2.idx (i := P.length + L0.length) (by simp), B.pv_some]
        refine o3.ld S' gy ?_
        refine o3.ld S' gx ?_
        refine o3.swapDn S' (by simp) (by simp) fun h4 o4 => ?_
        refine hZ L0.length _ _ (by simp) ⟨L0, y :: L2, rfl, rfl, by simp, by simpa using o4, ?_⟩
        intro q hq2
        rcases List.mem_cons.1 hq2 with rfl | hq2
        · exact (lt'_gt hyx).2 hb2
        · exact hx q hq2
      · simp -dsimp only [add1 (show i < 4611686018427387904 by omega), B.pv_some]
        exact fin (.inr ⟨L0, y, rfl, (lt'_le W hyx).2 hb2⟩)
end
end Go.Ab

/- What is proved: two parts of one's own list exchanged; a list turned about a place. No conditions. -/
set_option linter.unusedVariables false
set_option linter.unusedSimpArgs false
namespace Go.Ab
variable {C : CSem} {N : Nat → Nat}
section
variable {E : ElOps} {X : Type} {cs : X → List AVal} {v : X → AVal} {h0 h : AHeap} {x f : AVal} {R : List (List AVal)} {Q : AVal → AHeap → Prop}

end
end Go.Ab

/- What is proved: two sorted parts merged in place, stable: where one of them is a single element. No conditions. -/
set_option linter.unusedVariables false
set_option linter.unusedSimpArgs false
namespace Go.Ab
variable {C : CSem} {N : Nat → Nat}
section
variable {E : ElOps} {T : Type} {cs : T → List AVal} {v : T → AVal} {c : T → T → Int} {h0 h : AHeap} {x f : AVal} {R : List (List AVal)} {Q : AVal → AHeap → Prop}

end
end Go.Ab

/- What is proved: two sorted parts merged in place, stable: one element on the right; the split of two long parts. No conditions. -/
set_option linter.unusedVariables false
set_option linter.unusedSimpArgs false
namespace Go.Ab
variable {C : CSem} {N : Nat → Nat}
section
variable {E : ElOps} {T : Type} {cs : T → List AVal} {v : T → AVal} {c : T → T → Int} {h0 h : AHeap} {x f : AVal} {R : List (List AVal)} {Q : AVal → AHeap → Prop}

end
end Go.Ab

/- What is proved: two sorted parts merged in place, stable. No conditions. -/
set_option linter.unusedVariables false
set_option linter.unusedSimpArgs false
namespace Go.Ab
variable {C : CSem} {N : Nat → Nat}
section
variable {E : ElOps} {T : Type} {cs : T → List AVal} {v : T → AVal} {c : T → T → Int} {h0 h : AHeap} {x f : AVal} {R : List (List AVal)} {Q : AVal → AHeap → Prop}

end
end Go.Ab

/- What is proved: stable sorting of one's own list by a comparison. No conditions. -/
set_option linter.unusedVariables false
set_option linter.unusedSimpArgs false
namespace Go.Ab
variable {C : CSem} {N : Nat → Nat}
section
variable {E : ElOps} {T : Type} {cs : T → List AVal} {v : T → AVal} {c : T → T → Int} {h0 h : AHeap} {x f : AVal} {R : List (List AVal)} {Q : AVal → AHeap → Prop}

end
end Go.Ab

/- What is proved: slices.SortStableFunc, whatever the elements and the comparison. No conditions. -/
set_option linter.unusedVariables false
set_option linter.unusedSimpArgs false
namespace Go.Ab
variable {C : CSem} {N : Nat → Nat}
def Apt {T : Type} (A D : List (T × Nat)) : Prop := ∀ p ∈ A, ∀ q ∈ D, p.2 < q.2
theorem Apt.perm {T : Type} {A A' D D' : List (T × Nat)} (h : Apt A D) (h1 : ∀ p ∈ A', p ∈ A) (h2 : ∀ p ∈ D', p ∈ D) : Apt A' D' := fun p hp q hq => h p (h1 p hp) q (h2 q hq)
section
variable {E : ElOps} {T : Type} {cs : T → List AVal} {v : T → AVal} {c : T → T → Int} {h0 h : AHeap} {x f : AVal} {R : List (List AVal)} {Q : AVal → AHeap → Prop}

end
end Go.Ab

/- What is proved: slices.SortStableFunc gives the stable order, whatever the elements and the comparison. No conditions. -/
set_option linter.unusedVariables false
set_option linter.unusedSimpArgs false
namespace Go.Ab
variable {C : CSem} {N : Nat → Nat}
section
variable {E : ElOps} {T : Type} {cs : T → List AVal} {v : T → AVal} {c : T → T → Int} {h0 h : AHeap} {x f : AVal} {R : List (List AVal)} {Q : AVal → AHeap → Prop}

end
end Go.Ab

/- What is proved: a list sorted one by one, each behind all that are not above it, stands in the stable order. No conditions. -/
set_option linter.unusedVariables false
set_option linter.unusedSimpArgs false
namespace Go.Ab
section
variable {T : Type} {c : T → T → Int}
end
end Go.Ab

/- What is told: residuals: what each function does in the abstract memory, printed by a program of mine. Definitions alone. -/
set_option linter.unusedVariables false
namespace Go.Ab
end Go.Ab

/- What is proved: contracts of lots' functions, the program's. No conditions. -/
set_option linter.unusedVariables false
set_option linter.unusedSimpArgs false
namespace Go.Ab
variable {C : CSem} {N : Nat → Nat}

/-! What of a list a function keeps. -/
end Go.Ab

/- What is proved: slices.IndexFunc and slices.ContainsFunc, whatever the elements and the function asked. No conditions. -/
set_option linter.unusedVariables false
set_option linter.unusedSimpArgs false
namespace Go.Ab
variable {C : CSem} {N : Nat → Nat}
section
variable {E : ElOps} {T : Type} {cs : T → List AVal} {v : T → AVal}
/-- A function's answers on elements: it leaves the memory. -/
def AskSpec (C : CSem) (v : T → AVal) (f : AVal) (p : T → Bool) (h : AHeap) : Prop := ∀ (t : T) (h' : AHeap) (K : AVal → AHeap → Prop), h.le h' → K (.bool (p t)) h' → B.callv h' C f [v t] K
theorem AskSpec.mono {f : AVal} {p : T → Bool} {h H : AHeap} (s : AskSpec C v f p h) (hle : h.le H) : AskSpec C v f p H := fun l h' K hh hk => s l h' K (AHeap.le_trans hle hh) hk
end
end Go.Ab

/- What is proved: the library's quick sort, generic: what keeps a list's elements; pivots. No conditions. -/
set_option linter.unusedVariables false
set_option linter.unusedSimpArgs false
namespace Go.Ab
variable {C : CSem}
/-- The same elements, the same outside a range. -/
structure Within {X : Type} (a b : Nat) (G G' : List X) : Prop where
  perm : G'.Perm G
  out : ∀ i, i < a ∨ b ≤ i → G'[i]? = G[i]?
theorem Within.refl {X : Type} (a b : Nat) (G : List X) : Within a b G G := ⟨.refl _, fun _ _ => rfl⟩
theorem Within.trans {X : Type} {a b : Nat} {G G' G'' : List X} (x : Within a b G G') (y : Within a b G' G'') : Within a b G G'' := ⟨y.perm.trans x.perm, fun i hi => (y.out i hi).trans (x.out i hi)⟩
theorem Within.mono {X : Type} {a b a' b' : Nat} {G G' : List X} (x : Within a b G G') (ha : a' ≤ a) (hb : b ≤ b') : Within a' b' G G' := ⟨x.perm, fun i hi => x.out i (by omega)⟩
theorem Within.len {X : Type} {a b : Nat} {G G' : List X} (x : Within a b G G') : G'.length = G.length := x.perm.length_eq
theorem Within.same {X : Type} {a b : Nat} {G G' : List X} (w : Within a b G G') {k : Nat} (hk : k < a ∨ b ≤ k) (h1 : k < G'.length) (h2 : k < G.length) : G'[k] = G[k] := by
  have := w.out k hk
  rw [List.getElem?_eq_getElem h1, List.getElem?_eq_getElem h2] at this
  exact Option.some.inj this
def swp {X : Type} (G : List X) (i j : Nat) (hi : i < G.length) (hj : j < G.length) : List X := (G.set i G[j]).set j G[i]
theorem swp_perm {X : Type} {G : List X} {i j : Nat} (hi : i < G.length) (hj : j < G.length) : (swp G i j hi hj).Perm G := by
  unfold swp
  exact List.set_set_perm hi hj
theorem swp_get {X : Type} {G : List X} {i j : Nat} (hi : i < G.length) (hj : j < G.length) (k : Nat) : (swp G i j hi hj)[k]? = if k = j then some G[i] else if k = i then some G[j] else G[k]? := by
  unfold swp
  rw [List.getElem?_set]
  by_cases e : j = k
  · subst e; simp [hj]
  · rw [if_neg e, if_neg (Ne.symm e), List.getElem?_set]
    by_cases e2 : i = k
    · subst e2; simp [hi]
    · rw [if_neg e2, if_neg (Ne.symm e2)]
theorem swp_within {X : Type} {G : List X} {i j a b : Nat} (hi : i < G.length) (hj : j < G.length) (h1 : a ≤ i) (h2 : i < b) (h3 : a ≤ j) (h4 : j < b) : Within a b G (swp G i j hi hj) := ⟨swp_perm hi hj, fun k hk => by
  rw [swp_get, if_neg (by omega), if_neg (by omega)]⟩
section
variable {E : ElOps} {X : Type} {cs : X → List AVal} {v : X → AVal} {h0 h : AHeap} {x f : AVal} {G : List X} {R : List (List AVal)} {c : X → X → Int}
/-- Two places are exchanged. -/
theorem Rw.swap (ho : Rw E cs h0 h x G R) (S : SeqSpec E cs v) {i j : Nat} (hi : i < G.length) (hj : j < G.length) {K : AHeap → Prop} (hk : ∀ h', Rw E cs h0 h' x (swp G i j hi hj) R → K h') :
    E.st h (elp E.es x i 0) (v G[j]) fun h => E.st h (elp E.es x j 0) (v G[i]) K := by
  refine ho.st S (t := G[j]) hi fun h1 o1 => ?_
  exact o1.st S (t := G[i]) (by simpa using hj) fun h2 o2 => hk h2 o2
theorem order2_spec (S : SeqSpec E cs v) (hx : SlX h0 E.es x (G.map cs) R) (hc : CmpSpec C v c f h0) {p : AVal} {n : Int} (ho : Owns h0 h [.box p [.int .i64 n]]) {i j : Nat} (hi : i < G.length) (hj : j < G.length) {Q : AVal → AHeap → Prop}
    (hq : ∀ (i' j' : Nat) (n' : Int) h', (i' = i ∨ i' = j) → (j' = i ∨ j' = j) → Owns h0 h' [.box p [.int .i64 n']] → Q (.tup [.int .i64 (i' : Int), .int .i64 (j' : Int)]) h') : slices_order2CmpFuncG.cps C E x (.int .i64 (i : Int)) (.int .i64 (j : Int)) p f h Q := by
  have hxx := hx.mono ho.le
  have ii : V.idxS E.es x (.int .i64 (i : Int)) = some (elp E.es x i 0) := hxx.idxN (by simpa using hi)
  have ij : V.idxS E.es x (.int .i64 (j : Int)) = some (elp E.es x j 0) := hxx.idxN (by simpa using hj)
  have gi : (G.map cs)[i]? = some (cs G[i]) := by rw [List.getElem?_map, List.getElem?_eq_getElem hi]; rfl
  have gj : (G.map cs)[j]? = some (cs G[j]) := by rw [List.getElem?_map, List.getElem?_eq_getElem hj]; rfl
  obtain ⟨id, rfl, hb⟩ := ho.boxAt 0 rfl
  have ld : A.ldv h (.ptr id 0 0) = some (.int .i64 n) := by rw [ldv_at hb]; rfl
  simp -dsimp only [slices_order2CmpFuncG.cps, slices_order2CmpFuncG.k1, ij, B.pv_some]
  refine S.ld hxx gj ?_
  simp -dsimp only [ii, B.pv_some]
  refine S.ld hxx gi ?_
  refine hc.call _ _ _ _ ho.le ?_
  simp -dsimp only [V.bin_lss, B.pv_some]
  refine B.cond_bool (fun hd => ?_) (fun hd => ?_)
  · simp -dsimp only [B.nilCheck_ptr, B.ld_eq, ld, V.bin_add, B.pv_some]
    refine ho.boxSt 0 (off := 0) rfl rfl (by simp) fun h2 o2 _ => ?_
    exact hq j i _ h2 (.inr rfl) (.inl rfl) (by simpa using o2)
  · exact hq i j n h (.inl rfl) (.inr rfl) ho
abbrev O2I (C : CSem) (E : ElOps) (f1 : Nat) : Prop := ∀ (v0 v1 v2 v3 v4 : AVal) (h : AHeap) (Q : AVal → AHeap → Prop), slices_order2CmpFuncG.cps C E v0 v1 v2 v3 v4 h (dn Q) → C f1 [v0, v1, v2, v3, v4] h Q
abbrev MedI (C : CSem) (E : ElOps) (f1 f2 : Nat) : Prop := ∀ (v0 v1 v2 v3 v4 v5 : AVal) (h : AHeap) (Q : AVal → AHeap → Prop), slices_medianCmpFuncG.cps C E f1 v0 v1 v2 v3 v4 v5 h (dn Q) → C f2 [v0, v1, v2, v3, v4, v5] h Q
abbrev AdjI (C : CSem) (E : ElOps) (f2 f3 : Nat) : Prop := ∀ (v0 v1 v2 v3 : AVal) (h : AHeap) (Q : AVal → AHeap → Prop), slices_medianAdjacentCmpFuncG.cps C E f2 v0 v1 v2 v3 h (dn Q) → C f3 [v0, v1, v2, v3] h Q
theorem median_spec {f1 : Nat} (io : O2I C E f1) (S : SeqSpec E cs v) (hx : SlX h0 E.es x (G.map cs) R) (hc : CmpSpec C v c f h0) {p : AVal} {n : Int} (ho : Owns h0 h [.box p [.int .i64 n]]) {i j k : Nat} (hi : i < G.length) (hj : j < G.length) (hk : k < G.length) {Q : AVal → AHeap → Prop}
    (hq : ∀ (m : Nat) (n' : Int) h', (m = i ∨ m = j ∨ m = k) → Owns h0 h' [.box p [.int .i64 n']] → Q (.int .i64 (m : Int)) h') : slices_medianCmpFuncG.cps C E f1 x (.int .i64 (i : Int)) (.int .i64 (j : Int)) (.int .i64 (k : Int)) p f h Q := by
  simp -dsimp only [slices_medianCmpFuncG.cps, slices_medianCmpFuncG.k1]
  refine io _ _ _ _ _ _ _ (order2_spec S hx hc ho hi hj fun a b n1 h1 ha hb o1 => dn_same ?_)
  simp -dsimp only [V.ext_tup, List.getElem?_cons_zero, List.getElem?_cons_succ, B.pv_some]
  have la : a < G.length := by rcases ha with rfl | rfl <;> assumption
  have lb : b < G.length := by rcases hb with rfl | rfl <;> assumption
  refine io _ _ _ _ _ _ _ (order2_spec S hx hc o1 lb hk fun a2 b2 n2 h2 ha2 hb2 o2 => dn_same ?_)
  simp -dsimp only [V.ext_tup, List.getElem?_cons_zero, List.getElem?_cons_succ, B.pv_some]
  have la2 : a2 < G.length := by rcases ha2 with rfl | rfl <;> assumption
  refine io _ _ _ _ _ _ _ (order2_spec S hx hc o2 la la2 fun a3 b3 n3 h3 ha3 hb3 o3 => dn_same ?_)
  simp -dsimp only [V.ext_tup, List.getElem?_cons_zero, List.getElem?_cons_succ, B.pv_some]
  refine hq b3 n3 h3 ?_ o3
  omega
theorem medianAdjacent_spec {f1 f2 : Nat} (io : O2I C E f1) (im : MedI C E f1 f2) (S : SeqSpec E cs v) (hx : SlX h0 E.es x (G.map cs) R) (hc : CmpSpec C v c f h0) {p : AVal} {n : Int} (ho : Owns h0 h [.box p [.int .i64 n]]) {i : Nat} (hi : 0 < i) (hi2 : i + 1 < G.length) (hl : G.length < 4611686018427387904) {Q : AVal → AHeap → Prop}
    (hq : ∀ (m : Nat) (n' : Int) h', i - 1 ≤ m → m ≤ i + 1 → Owns h0 h' [.box p [.int .i64 n']] → Q (.int .i64 (m : Int)) h') : slices_medianAdjacentCmpFuncG.cps C E f2 x (.int .i64 (i : Int)) p f h Q := by
  have e1 : V.bin .sub (.int .i64 (i : Int)) (.int .i64 1) = some (.int .i64 ((i - 1 : Nat) : Int)) := by
    rw [V.bin_sub, wrap_i64 (by omega) (by omega)]; congr 2; omega
  simp -dsimp only [slices_medianAdjacentCmpFuncG.cps, slices_medianAdjacentCmpFuncG.k1, e1, add1 (show i < 4611686018427387904 by omega), B.pv_some]
  exact im _ _ _ _ _ _ _ _ (median_spec io S hx hc ho (by omega) (by omega) hi2 fun m n' h' hm o' => dn_same (hq m n' h' (by omega) (by omega) o'))
theorem reverseRange_spec (S : SeqSpec E cs v) (hl : G.length < 4611686018427387904) (ho : Rw E cs h0 h x G R) {a b : Nat} (hab : a < b) (hb : b ≤ G.length) {Q : AVal → AHeap → Prop} (hq : ∀ h' G', Within a b G G' → Rw E cs h0 h' x G' R → Q (.tup []) h') :
    slices_reverseRangeCmpFuncG.cps C E x (.int .i64 (a : Int)) (.int .i64 (b : Int)) f h Q := by
  have e1 : V.bin .sub (.int .i64 (b : Int)) (.int .i64 1) = some (.int .i64 ((b - 1 : Nat) : Int)) := by
    rw [V.bin_sub, wrap_i64 (by omega) (by omega)]; congr 2; omega
  simp -dsimp only [slices_reverseRangeCmpFuncG.cps, e1, B.pv_some]
  refine LoopR.intro (fun t vs hh => ∃ (i j : Nat) (G' : List X), t = j ∧ vs = [.int .i64 (i : Int), .int .i64 (j : Int)] ∧ a ≤ i ∧ j < b ∧ Within a b G G' ∧ Rw E cs h0 hh x G' R) (b - 1) ?_ ⟨a, b - 1, G, rfl, rfl, Nat.le_refl _, by omega, Within.refl _ _ _, ho⟩
  rintro Y j vs hh ⟨i, _, G', rfl, rfl, hi, hj, W, o⟩ hY
  simp -dsimp only [slices_reverseRangeCmpFuncG.l2, slices_reverseRangeCmpFuncG.k1, lssN, B.pv_some]
  have hlen := W.len
  refine B.cond_bool (fun hc => ?_) (fun hc => hq hh G' W o) 
  rw [decide_eq_true_eq] at hc
  have li : i < G'.length := by omega
  have lj : j < G'.length := by omega
  simp -dsimp only [o.idx lj, B.pv_some]
  refine o.ld S (List.getElem?_eq_getElem lj) ?_
  simp -dsimp only [o.idx li, B.pv_some]
  refine o.ld S (List.getElem?_eq_getElem li) ?_
  have ij := o.idx lj
  refine o.st S (t := G'[j]) li fun h1 o1 => ?_
  simp -dsimp only [ij, B.pv_some]
  refine o1.st S (t := G'[i]) (by simpa using lj) fun h2 o2 => ?_
  have e2 : V.bin .sub (.int .i64 (j : Int)) (.int .i64 1) = some (.int .i64 ((j - 1 : Nat) : Int)) := by
    rw [V.bin_sub, wrap_i64 (by omega) (by omega)]; congr 2; omega
  simp -dsimp only [add1 (show i < 4611686018427387904 by omega), e2, B.pv_some]
  exact hY (j - 1) _ _ (by omega) ⟨i + 1, j - 1, _, rfl, rfl, by omega, by omega, W.trans (swp_within li lj hi (by omega) (by omega) hj), o2⟩
theorem quo4 {a : Nat} (h : a < 4611686018427387904) : V.bin .quo (.int .i64 (a : Int)) (.int .i64 4) = some (.int .i64 ((a / 4 : Nat) : Int)) := by
  rw [V.bin_quo _ _ _ (by omega), show (a : Int).tdiv 4 = ((a / 4 : Nat) : Int) from rfl, wrap_i64 (by omega) (by omega)]
theorem mulN {a b : Nat} (h : a * b < 4611686018427387904) : V.bin .mul (.int .i64 (a : Int)) (.int .i64 (b : Int)) = some (.int .i64 ((a * b : Nat) : Int)) := by
  rw [V.bin_mul, show (a : Int) * (b : Int) = ((a * b : Nat) : Int) by simp, wrap_i64 (by omega) (by omega)]
theorem addNN {a b : Nat} (h : a + b < 4611686018427387904) : V.bin .add (.int .i64 (a : Int)) (.int .i64 (b : Int)) = some (.int .i64 ((a + b : Nat) : Int)) := by
  rw [V.bin_add, show (a : Int) + (b : Int) = ((a + b : Nat) : Int) by simp, wrap_i64 (by omega) (by omega)]
theorem subNN {a b : Nat} (h : b ≤ a) (h2 : a < 4611686018427387904) : V.bin .sub (.int .i64 (a : Int)) (.int .i64 (b : Int)) = some (.int .i64 ((a - b : Nat) : Int)) := by
  rw [V.bin_sub, show (a : Int) - (b : Int) = ((a - b : Nat) : Int) by omega, wrap_i64 (by omega) (by omega)]
theorem geqN {a b : Nat} : V.bin .geq (.int .i64 (a : Int)) (.int .i64 (b : Int)) = some (.bool (decide (b ≤ a))) := by rw [V.bin_geq]; congr 3; exact propext (by omega)
theorem choosePivot_spec {f1 f2 f3 : Nat} (io : O2I C E f1) (im : MedI C E f1 f2) (ia : AdjI C E f2 f3) (S : SeqSpec E cs v) (hx : SlX h E.es x (G.map cs) R) (h0le : h0.le h) (hc : CmpSpec C v c f h0) (hl : G.length ≤ 100000000) {a b : Nat} (hab : a + 8 ≤ b) (hb : b ≤ G.length) {Q : AVal → AHeap → Prop}
    (hq : ∀ (m : Nat) (hint : Int) h', a ≤ m → m < b → h.le h' → Q (.tup [.int .i64 (m : Int), .int .i64 hint]) h') : slices_choosePivotCmpFuncG.cps C E f2 f3 x (.int .i64 (a : Int)) (.int .i64 (b : Int)) f h Q := by
  have e1 := subNN (a := b) (b := a) (by omega) (by omega)
  simp -dsimp only [slices_choosePivotCmpFuncG.cps, e1, B.pv_some]
  intro id hid
  have o := (Owns.start h).newBox hid [.int .i64 0]
  simp only [List.nil_append] at o
  have q4 := quo4 (a := b - a) (by omega)
  have m1 := mulN (a := (b - a) / 4) (b := 1) (by omega)
  have m2 := mulN (a := (b - a) / 4) (b := 2) (by omega)
  have m3 := mulN (a := (b - a) / 4) (b := 3) (by omega)
  have a1 := addNN (a := a) (b := (b - a) / 4 * 1) (by omega)
  have a2 := addNN (a := a) (b := (b - a) / 4 * 2) (by omega)
  have a3 := addNN (a := a) (b := (b - a) / 4 * 3) (by omega)
  have g8 : V.bin .geq (.int .i64 ((b - a : Nat) : Int)) (.int .i64 8) = some (.bool true) := by rw [V.bin_geq, decide_eq_true (by omega)]
  have hc' : CmpSpec C v c f h := ⟨fun h2 s t K hle hk => hc.call h2 s t K (AHeap.le_trans h0le hle) hk⟩
  simp -dsimp only [slices_choosePivotCmpFuncG.k6, slices_choosePivotCmpFuncG.k5, slices_choosePivotCmpFuncG.k4, slices_choosePivotCmpFuncG.k3, q4, B.pv_some]
  have m1' : V.bin .mul (.int .i64 (((b - a) / 4 : Nat) : Int)) (.int .i64 1) = some (.int .i64 (((b - a) / 4 * 1 : Nat) : Int)) := m1
  have m2' : V.bin .mul (.int .i64 (((b - a) / 4 : Nat) : Int)) (.int .i64 2) = some (.int .i64 (((b - a) / 4 * 2 : Nat) : Int)) := m2
  have m3' : V.bin .mul (.int .i64 (((b - a) / 4 : Nat) : Int)) (.int .i64 3) = some (.int .i64 (((b - a) / 4 * 3 : Nat) : Int)) := m3
  simp -dsimp only [q4, m1', m2', m3', a1, a2, a3, g8, B.cond_true, slices_choosePivotCmpFuncG.k5, slices_choosePivotCmpFuncG.k4, slices_choosePivotCmpFuncG.k3, slices_choosePivotCmpFuncG.k2, B.pv_some]
  have fin : ∀ (m : Nat) (n' : Int) h', a ≤ m → m < b → Owns h h' [.box (.ptr id 0 0) [.int .i64 n']] → slices_choosePivotCmpFuncG.k1 C E f2 f3 Q (.ptr id 0 0) (.int .i64 (m : Int)) h' := fun m n' h' k1 k2 o' => by
    obtain ⟨id', e, hb'⟩ := o'.boxAt 0 rfl
    cases e
    have ld : A.ldv h' (.ptr id 0 0) = some (.int .i64 n') := by rw [ldv_at hb']; rfl
    simp -dsimp only [slices_choosePivotCmpFuncG.k1, B.ld_eq, ld, V.bin_eql, B.pv_some]
    refine B.cond_bool (fun _ => hq m _ h' k1 k2 o'.le) (fun _ => ?_)
    refine B.cond_bool (fun _ => hq m _ h' k1 k2 o'.le) (fun _ => hq m _ h' k1 k2 o'.le)
  have g50 : V.bin .geq (.int .i64 ((b - a : Nat) : Int)) (.int .i64 50) = some (.bool (decide (50 ≤ b - a))) := geqN (b := 50)
  simp -dsimp only [g50, B.pv_some]
  refine B.cond_bool (fun hd => ?_) (fun hd => ?_)
  · rw [decide_eq_true_eq] at hd
    refine ia _ _ _ _ _ _ (medianAdjacent_spec io im S hx hc' o (by omega) (by omega) (by omega) fun i n1 h1 i1 i2 o1 => dn_same ?_)
    refine ia _ _ _ _ _ _ (medianAdjacent_spec io im S hx hc' o1 (by omega) (by omega) (by omega) fun j n2 h2 j1 j2 o2 => dn_same ?_)
    refine ia _ _ _ _ _ _ (medianAdjacent_spec io im S hx hc' o2 (by omega) (by omega) (by omega) fun k n3 h3 k1 k2 o3 => dn_same ?_)
    refine im _ _ _ _ _ _ _ _ (median_spec io S hx hc' o3 (by omega) (by omega) (by omega) fun m n4 h4 hm o4 => dn_same ?_)
    exact fin m n4 h4 (by omega) (by omega) o4
  · refine im _ _ _ _ _ _ _ _ (median_spec io S hx hc' o (by omega) (by omega) (by omega) fun m n4 h4 hm o4 => dn_same ?_)
    exact fin m n4 h4 (by omega) (by omega) o4
end
end Go.Ab

/- What is proved: the library's quick sort, generic: a range is parted by a pivot. No conditions. -/
set_option linter.unusedVariables false
set_option linter.unusedSimpArgs false
namespace Go.Ab
variable {C : CSem}
/-- Parted so far: less than the pivot (at a) up to i, not less behind j. -/
structure PInv {X : Type} (c : X → X → Int) (a b : Nat) (G : List X) (i j : Nat) : Prop where
  hb : b ≤ G.length
  hi : a < i
  hj : j < b
  hij : i ≤ j + 1
  lo : ∀ k (h : k < G.length) (ha : a < G.length), a < k → k < i → c G[k] G[a] < 0
  hi2 : ∀ k (h : k < G.length) (ha : a < G.length), j < k → k < b → ¬ c G[k] G[a] < 0
/-- Parted by the pivot at m. -/
structure Parted {X : Type} (c : X → X → Int) (a b m : Nat) (G : List X) : Prop where
  ge : a ≤ m
  lt : m < b
  hb : b ≤ G.length
  lo : ∀ k (h : k < G.length) (hm : m < G.length), a ≤ k → k < m → c G[k] G[m] < 0
  hi : ∀ k (h : k < G.length) (hm : m < G.length), m < k → k < b → ¬ c G[k] G[m] < 0
section
variable {E : ElOps} {X : Type} {cs : X → List AVal} {v : X → AVal} {h0 h : AHeap} {x f : AVal} {G : List X} {R : List (List AVal)} {c : X → X → Int} {Q : AVal → AHeap → Prop} {Y1 : List AVal → AHeap → Prop} {a b i j : Nat}
theorem swp_at {X : Type} {G : List X} {i j : Nat} (hi : i < G.length) (hj : j < G.length) {k : Nat} (hk : k < (swp G i j hi hj).length) (hk' : k < G.length) : (swp G i j hi hj)[k] = if k = j then G[i] else if k = i then G[j] else G[k] := by
  have := swp_get hi hj k
  rw [List.getElem?_eq_getElem hk] at this
  split at this
  · rename_i e; rw [if_pos e]; exact Option.some.inj this
  · rename_i e; rw [if_neg e]
    split at this
    · rename_i e2; rw [if_pos e2]; exact Option.some.inj this
    · rename_i e2; rw [if_neg e2, List.getElem?_eq_getElem hk'] at *; exact Option.some.inj this
theorem swp_len {X : Type} {G : List X} {i j : Nat} (hi : i < G.length) (hj : j < G.length) : (swp G i j hi hj).length = G.length := by simp [swp]
/-- The pivot comes to its place. -/
theorem PInv.done (p : PInv c a b G i j) (hab : a < b) (hc : j < i) (hj : j < G.length) (ha : a < G.length) : Parted c a b j (swp G j a hj ha) := by
  have h1 := p.hi; have h2 := p.hij; have h3 := p.hj; have h4 := p.hb
  have hl := swp_len hj ha
  have pj : ∀ (hm : j < (swp G j a hj ha).length), (swp G j a hj ha)[j] = G[a] := fun hm => by
    rw [swp_at hj ha hm hj]
    by_cases e : j = a
    · subst e; simp
    · rw [if_neg e, if_pos rfl]
  refine ⟨by omega, h3, by omega, fun k hk hm k1 k2 => ?_, fun k hk hm k1 k2 => ?_⟩
  · rw [pj, swp_at hj ha hk (by omega)]
    by_cases e : k = a
    · rw [if_pos e]; exact p.lo j hj ha (by omega) (by omega)
    · rw [if_neg e, if_neg (by omega)]; exact p.lo k (by omega) ha (by omega) (by omega)
  · rw [pj, swp_at hj ha hk (by omega), if_neg (by omega), if_neg (by omega)]
    exact p.hi2 k (by omega) ha k1 k2
/-- Two are exchanged. -/
theorem PInv.swap (p : PInv c a b G i j) (hc : i ≤ j) (hi : i < G.length) (hj : j < G.length) (ha : a < G.length) (h1 : ¬ c G[i] G[a] < 0) (h2 : c G[j] G[a] < 0) : PInv c a b (swp G i j hi hj) (i + 1) (j - 1) := by
  have k1 := p.hi; have k2 := p.hij; have k3 := p.hj; have k4 := p.hb
  have hne : i ≠ j := fun e => by subst e; exact h1 h2
  have hl := swp_len hi hj
  have pa : ∀ (hm : a < (swp G i j hi hj).length), (swp G i j hi hj)[a] = G[a] := fun hm => by rw [swp_at hi hj hm ha, if_neg (by omega), if_neg (by omega)]
  refine ⟨by omega, by omega, by omega, by omega, fun k hk hm q1 q2 => ?_, fun k hk hm q1 q2 => ?_⟩
  · rw [pa, swp_at hi hj hk (by omega), if_neg (by omega)]
    by_cases e : k = i
    · rw [if_pos e]; exact h2
    · rw [if_neg e]; exact p.lo k (by omega) ha q1 (by omega)
  · rw [pa, swp_at hi hj hk (by omega)]
    by_cases e : k = j
    · rw [if_pos e]; exact h1
    · rw [if_neg e, if_neg (by omega)]; exact p.hi2 k (by omega) ha (by omega) q2
theorem part_j (S : SeqSpec E cs v) (hc : CmpSpec C v c f h0) (ho : Rw E cs h0 h x G R) (hl : G.length < 4611686018427387904) (hab : a < b) (p : PInv c a b G i j) (hi0 : j < i ∨ ∀ (h1 : i < G.length) (h2 : a < G.length), ¬ c G[i] G[a] < 0)
    (done : ∀ h' j', PInv c a b G i j' → j' < i → Rw E cs h0 h' x G R → slices_partitionCmpFuncG.k1 C E Q x (.int .i64 (a : Int)) (.int .i64 (j' : Int)) h')
    (next : ∀ h' j' (hi : i < G.length) (hj : j' < G.length) , PInv c a b (swp G i j' hi hj) (i + 1) (j' - 1) → i < j' → j' < b → Rw E cs h0 h' x (swp G i j' hi hj) R → Y1 [.int .i64 ((i + 1 : Nat) : Int), .int .i64 ((j' - 1 : Nat) : Int)] h') :
    LoopR (slices_partitionCmpFuncG.l4 C E Q Y1 x (.int .i64 (a : Int)) f (.int .i64 (i : Int))) [.int .i64 (j : Int)] h := by
  refine LoopR.intro (fun t vs hh => hh = h ∧ ∃ j' : Nat, t = j' ∧ vs = [.int .i64 (j' : Int)] ∧ PInv c a b G i j' ∧ (j' < i ∨ ∀ (h1 : i < G.length) (h2 : a < G.length), ¬ c G[i] G[a] < 0)) j ?_ ⟨rfl, j, rfl, rfl, p, hi0⟩
  rintro Y j' vs hh ⟨rfl, _, rfl, rfl, p, hi0⟩ hY
  have k1 := p.hi; have k2 := p.hij; have k3 := p.hj; have k4 := p.hb
  have la : a < G.length := by omega
  have lj : j' < G.length := by omega
  simp -dsimp only [slices_partitionCmpFuncG.l4, slices_partitionCmpFuncG.k3, leqN, B.pv_some]
  by_cases hle : i ≤ j'
  · have li : i < G.length := by omega
    simp -dsimp only [hle, decide_true, B.gd_t, B.gdb_true, ho.idx lj, ho.idx la, B.pv_some]
    refine ho.ld S (List.getElem?_eq_getElem lj) ?_
    refine ho.ld S (List.getElem?_eq_getElem la) ?_
    refine hc.call _ _ _ _ ho.le ?_
    simp -dsimp only [hle, decide_true, B.gd_t, B.gdb_true, V.bin_lss, V.un_not, B.pick_t, B.pv_some]
    refine B.cond_bool (fun hd => ?_) (fun hd => ?_)
    · have hd' : ¬ c G[j'] G[a] < 0 := by simpa using hd
      have e1 := subNN (a := j') (b := 1) (by omega) (by omega)
      have e1' : V.bin .sub (.int .i64 (j' : Int)) (.int .i64 1) = some (.int .i64 ((j' - 1 : Nat) : Int)) := e1
      simp -dsimp only [e1', B.pv_some]
      refine hY (j' - 1) _ _ (by omega) ⟨rfl, j' - 1, rfl, rfl, ⟨k4, k1, by omega, by omega, p.lo, fun k hk ha q1 q2 => ?_⟩, ?_⟩
      · by_cases e : k = j'
        · subst e; exact hd'
        · exact p.hi2 k hk ha (by omega) q2
      · rcases hi0 with h | h
        · omega
        · exact .inr h
    · have hd' : c G[j'] G[a] < 0 := by simpa using hd
      have hni : ¬ c G[i] G[a] < 0 := by
        rcases hi0 with h | h
        · omega
        · exact h li la
      simp -dsimp only [slices_partitionCmpFuncG.k2, gtrN, show ¬ j' < i by omega, decide_false, B.cond_false, ho.idx lj, ho.idx li, B.pv_some]
      refine ho.ld S (List.getElem?_eq_getElem lj) ?_
      refine ho.ld S (List.getElem?_eq_getElem li) ?_
      refine ho.st S (t := G[j']) li fun h1 o1 => ?_
      refine o1.st S (t := G[i]) (by simpa using lj) fun h2 o2 => ?_
      have e1' : V.bin .sub (.int .i64 (j' : Int)) (.int .i64 1) = some (.int .i64 ((j' - 1 : Nat) : Int)) := subNN (a := j') (b := 1) (by omega) (by omega)
      simp -dsimp only [add1 (show i < 4611686018427387904 by omega), e1', B.pv_some]
      have hne : i ≠ j' := fun e => by subst e; exact hni hd'
      exact next h2 j' li lj (p.swap hle li lj la hni hd') (by omega) k3 o2
  · simp -dsimp only [hle, decide_false, B.gd_t, B.gdb_false, B.pick_f, B.cond_false, slices_partitionCmpFuncG.k2, gtrN, show j' < i by omega, decide_true, B.cond_true, B.pv_some]
    exact done hh j' p (by omega) ho
theorem part_i (S : SeqSpec E cs v) (hc : CmpSpec C v c f h0) (ho : Rw E cs h0 h x G R) (hl : G.length < 4611686018427387904) (hab : a < b) (p : PInv c a b G i j)
    (done : ∀ h' i' j', PInv c a b G i' j' → j' < i' → Rw E cs h0 h' x G R → slices_partitionCmpFuncG.k1 C E Q x (.int .i64 (a : Int)) (.int .i64 (j' : Int)) h')
    (next : ∀ h' i' j' (hi : i' < G.length) (hj : j' < G.length), PInv c a b (swp G i' j' hi hj) (i' + 1) (j' - 1) → a < i' → i ≤ i' → i' < j' → j' < b → Rw E cs h0 h' x (swp G i' j' hi hj) R → Y1 [.int .i64 ((i' + 1 : Nat) : Int), .int .i64 ((j' - 1 : Nat) : Int)] h') :
    LoopR (slices_partitionCmpFuncG.l6 C E Q Y1 x (.int .i64 (a : Int)) f (.int .i64 (j : Int))) [.int .i64 (i : Int)] h := by
  refine LoopR.intro (fun t vs hh => hh = h ∧ ∃ i' : Nat, i' + t = b ∧ i ≤ i' ∧ vs = [.int .i64 (i' : Int)] ∧ PInv c a b G i' j) (b - i) ?_ ⟨rfl, i, by have := p.hij; have := p.hj; omega, Nat.le_refl _, rfl, p⟩
  rintro Y t vs hh ⟨rfl, i', hit, hii, rfl, p⟩ hY
  have k1 := p.hi; have k2 := p.hij; have k3 := p.hj; have k4 := p.hb
  have la : a < G.length := by omega
  simp -dsimp only [slices_partitionCmpFuncG.l6, slices_partitionCmpFuncG.k5, leqN, B.pv_some]
  by_cases hle : i' ≤ j
  · have li : i' < G.length := by omega
    simp -dsimp only [hle, decide_true, B.gd_t, B.gdb_true, ho.idx li, ho.idx la, B.pv_some]
    refine ho.ld S (List.getElem?_eq_getElem li) ?_
    refine ho.ld S (List.getElem?_eq_getElem la) ?_
    refine hc.call _ _ _ _ ho.le ?_
    simp -dsimp only [hle, decide_true, B.gd_t, B.gdb_true, V.bin_lss, B.pick_t, B.pv_some]
    refine B.cond_bool (fun hd => ?_) (fun hd => ?_)
    · have hd' : c G[i'] G[a] < 0 := by simpa using hd
      simp -dsimp only [add1 (show i' < 4611686018427387904 by omega), B.pv_some]
      refine hY (b - (i' + 1)) _ _ (by omega) ⟨rfl, i' + 1, by omega, by omega, rfl, ⟨k4, by omega, k3, by omega, fun k hk ha q1 q2 => ?_, p.hi2⟩⟩
      by_cases e : k = i'
      · subst e; exact hd'
      · exact p.lo k hk ha q1 (by omega)
    · have hd' : ¬ c G[i'] G[a] < 0 := by simpa using hd
      exact part_j S hc ho hl hab p (.inr fun _ _ => hd') (fun h' j' p' hlt o' => done h' i' j' p' hlt o') fun h' j' hi hj p' h1 h2 o' => next h' i' j' hi hj p' k1 hii h1 h2 o'
  · simp -dsimp only [hle, decide_false, B.gd_t, B.gdb_false, B.pick_f, B.cond_false]
    exact part_j S hc ho hl hab p (.inl (by omega)) (fun h' j' p' hlt o' => done h' i' j' p' hlt o') fun h' j' hi hj p' h1 h2 o' => next h' i' j' hi hj p' k1 hii h1 h2 o'
/-- The pivot is set to its place. -/
theorem part_end (S : SeqSpec E cs v) (ho : Rw E cs h0 h x G R) (hab : a < b) (p : PInv c a b G i j) (hlt : j < i) (hq : ∀ h' m G', Parted c a b m G' → Within a b G G' → Rw E cs h0 h' x G' R → Q (.tup [.int .i64 (m : Int), .bool false]) h') :
    slices_partitionCmpFuncG.k1 C E Q x (.int .i64 (a : Int)) (.int .i64 (j : Int)) h := by
  have k1 := p.hi; have k2 := p.hij; have k3 := p.hj; have k4 := p.hb
  have la : a < G.length := by omega
  have lj : j < G.length := by omega
  simp -dsimp only [slices_partitionCmpFuncG.k1, ho.idx lj, ho.idx la, B.pv_some]
  refine ho.ld S (List.getElem?_eq_getElem la) ?_
  refine ho.ld S (List.getElem?_eq_getElem lj) ?_
  refine ho.st S (t := G[a]) lj fun h1 o1 => ?_
  refine o1.st S (t := G[j]) (by simpa using la) fun h2 o2 => ?_
  exact hq h2 j _ (p.done hab hlt lj la) (swp_within lj la (by omega) k3 (Nat.le_refl _) hab) o2
theorem part_main (S : SeqSpec E cs v) (hc : CmpSpec C v c f h0) (ho : Rw E cs h0 h x G R) (hl : G.length < 4611686018427387904) (hab : a < b) (p : PInv c a b G i j)
    (hq : ∀ h' m G', Parted c a b m G' → Within a b G G' → Rw E cs h0 h' x G' R → Q (.tup [.int .i64 (m : Int), .bool false]) h') :
    LoopR (slices_partitionCmpFuncG.l7 C E Q x (.int .i64 (a : Int)) f) [.int .i64 (i : Int), .int .i64 (j : Int)] h := by
  refine LoopR.intro (fun t vs hh => ∃ (i' j' : Nat) (G' : List X), i' + t = b ∧ vs = [.int .i64 (i' : Int), .int .i64 (j' : Int)] ∧ Within a b G G' ∧ PInv c a b G' i' j' ∧ Rw E cs h0 hh x G' R) (b - i) ?_ ⟨i, j, G, by have := p.hij; have := p.hj; omega, rfl, Within.refl _ _ _, p, ho⟩
  rintro Y t vs hh ⟨i', j', G', hit, rfl, W, p, o⟩ hY
  have hlen := W.len
  simp -dsimp only [slices_partitionCmpFuncG.l7]
  refine part_i S hc o (by omega) hab p (fun h' i2 j2 p2 hlt o2 => part_end S o2 hab p2 hlt fun h3 m G3 P3 W3 o3 => hq h3 m G3 P3 (W.trans W3) o3) fun h' i2 j2 hi hj p2 h1 h2 h3 h4 o2 => ?_
  exact hY (b - (i2 + 1)) _ _ (by omega) ⟨i2 + 1, j2 - 1, _, by omega, rfl, W.trans (swp_within hi hj (by omega) (by omega) (by omega) h4), p2, o2⟩
end
end Go.Ab

/- What is proved: the library's quick sort, generic: a range is parted by a pivot, from its beginning. No conditions. -/
set_option linter.unusedVariables false
set_option linter.unusedSimpArgs false
namespace Go.Ab
variable {C : CSem}
section
variable {E : ElOps} {X : Type} {cs : X → List AVal} {v : X → AVal} {h0 h : AHeap} {x f : AVal} {G : List X} {R : List (List AVal)} {c : X → X → Int} {Q : AVal → AHeap → Prop} {a b i j : Nat}
abbrev PartQ (E : ElOps) {X : Type} (cs : X → List AVal) (h0 : AHeap) (x : AVal) (c : X → X → Int) (a b : Nat) (R : List (List AVal)) (G : List X) (Q : AVal → AHeap → Prop) : Prop := ∀ h' m G' t, Parted c a b m G' → Within a b G G' → Rw E cs h0 h' x G' R → Q (.tup [.int .i64 (m : Int), .bool t]) h'
theorem part_k10 (S : SeqSpec E cs v) (hc : CmpSpec C v c f h0) (ho : Rw E cs h0 h x G R) (hl : G.length < 4611686018427387904) (hab : a < b) (p : PInv c a b G i j)
    (hd : j < i ∨ ∃ (h1 : i < G.length) (h2 : a < G.length) (h3 : j < G.length), i ≤ j ∧ ¬ c G[i] G[a] < 0 ∧ c G[j] G[a] < 0) (hq : PartQ E cs h0 x c a b R G Q) :
    slices_partitionCmpFuncG.k10 C E Q x (.int .i64 (a : Int)) f (.int .i64 (i : Int)) (.int .i64 (j : Int)) h := by
  have k1 := p.hi; have k2 := p.hij; have k3 := p.hj; have k4 := p.hb
  have la : a < G.length := by omega
  have lj : j < G.length := by omega
  rcases hd with hlt | ⟨li, _, _, hle, n1, n2⟩
  · simp -dsimp only [slices_partitionCmpFuncG.k10, gtrN, hlt, decide_true, B.cond_true, ho.idx lj, ho.idx la, B.pv_some]
    refine ho.ld S (List.getElem?_eq_getElem la) ?_
    refine ho.ld S (List.getElem?_eq_getElem lj) ?_
    refine ho.st S (t := G[a]) lj fun h1 o1 => ?_
    refine o1.st S (t := G[j]) (by simpa using la) fun h2 o2 => ?_
    exact hq h2 j _ true (p.done hab hlt lj la) (swp_within lj la (by omega) k3 (Nat.le_refl _) hab) o2
  · simp -dsimp only [slices_partitionCmpFuncG.k10, slices_partitionCmpFuncG.k9, gtrN, show ¬ j < i by omega, decide_false, B.cond_false, ho.idx lj, ho.idx li, B.pv_some]
    refine ho.ld S (List.getElem?_eq_getElem lj) ?_
    refine ho.ld S (List.getElem?_eq_getElem li) ?_
    refine ho.st S (t := G[j]) li fun h1 o1 => ?_
    refine o1.st S (t := G[i]) (by simpa using lj) fun h2 o2 => ?_
    have hne : i ≠ j := fun e => by subst e; exact n1 n2
    have e1' : V.bin .sub (.int .i64 (j : Int)) (.int .i64 1) = some (.int .i64 ((j - 1 : Nat) : Int)) := subNN (a := j) (b := 1) (by omega) (by omega)
    simp -dsimp only [slices_partitionCmpFuncG.k8, add1 (show i < 4611686018427387904 by omega), e1', B.pv_some]
    have W := swp_within li lj (by omega) (by omega) (by omega : a ≤ j) k3
    exact part_main S hc (G := swp G i j li lj) o2 (by rw [swp_len li lj]; omega) hab (p.swap hle li lj la n1 n2) fun h' m G' P' W' o' => hq h' m G' false P' (W.trans W') o'
theorem part_j1 (S : SeqSpec E cs v) (hc : CmpSpec C v c f h0) (ho : Rw E cs h0 h x G R) (hl : G.length < 4611686018427387904) (hab : a < b) (p : PInv c a b G i j) (hi0 : j < i ∨ ∀ (h1 : i < G.length) (h2 : a < G.length), ¬ c G[i] G[a] < 0) (hq : PartQ E cs h0 x c a b R G Q) :
    LoopR (slices_partitionCmpFuncG.l12 C E Q x (.int .i64 (a : Int)) f (.int .i64 (i : Int))) [.int .i64 (j : Int)] h := by
  refine LoopR.intro (fun t vs hh => hh = h ∧ ∃ j' : Nat, t = j' ∧ vs = [.int .i64 (j' : Int)] ∧ PInv c a b G i j' ∧ (j' < i ∨ ∀ (h1 : i < G.length) (h2 : a < G.length), ¬ c G[i] G[a] < 0)) j ?_ ⟨rfl, j, rfl, rfl, p, hi0⟩
  rintro Y j' vs hh ⟨rfl, _, rfl, rfl, p, hi0⟩ hY
  have k1 := p.hi; have k2 := p.hij; have k3 := p.hj; have k4 := p.hb
  have la : a < G.length := by omega
  have lj : j' < G.length := by omega
  simp -dsimp only [slices_partitionCmpFuncG.l12, slices_partitionCmpFuncG.k11, leqN, B.pv_some]
  by_cases hle : i ≤ j'
  · have li : i < G.length := by omega
    simp -dsimp only [hle, decide_true, B.gd_t, B.gdb_true, ho.idx lj, ho.idx la, B.pv_some]
    refine ho.ld S (List.getElem?_eq_getElem lj) ?_
    refine ho.ld S (List.getElem?_eq_getElem la) ?_
    refine hc.call _ _ _ _ ho.le ?_
    simp -dsimp only [hle, decide_true, B.gd_t, B.gdb_true, V.bin_lss, V.un_not, B.pick_t, B.pv_some]
    refine B.cond_bool (fun hd => ?_) (fun hd => ?_)
    · have hd' : ¬ c G[j'] G[a] < 0 := by simpa using hd
      have e1' : V.bin .sub (.int .i64 (j' : Int)) (.int .i64 1) = some (.int .i64 ((j' - 1 : Nat) : Int)) := subNN (a := j') (b := 1) (by omega) (by omega)
      simp -dsimp only [e1', B.pv_some]
      refine hY (j' - 1) _ _ (by omega) ⟨rfl, j' - 1, rfl, rfl, ⟨k4, k1, by omega, by omega, p.lo, fun k hk ha q1 q2 => ?_⟩, ?_⟩
      · by_cases e : k = j'
        · subst e; exact hd'
        · exact p.hi2 k hk ha (by omega) q2
      · rcases hi0 with h | h
        · omega
        · exact .inr h
    · have hd' : c G[j'] G[a] < 0 := by simpa using hd
      have hni : ¬ c G[i] G[a] < 0 := by
        rcases hi0 with h | h
        · omega
        · exact h li la
      exact part_k10 S hc ho hl hab p (.inr ⟨li, la, lj, hle, hni, hd'⟩) hq
  · simp -dsimp only [hle, decide_false, B.gd_t, B.gdb_false, B.pick_f, B.cond_false]
    exact part_k10 S hc ho hl hab p (.inl (by omega)) hq
theorem part_i1 (S : SeqSpec E cs v) (hc : CmpSpec C v c f h0) (ho : Rw E cs h0 h x G R) (hl : G.length < 4611686018427387904) (hab : a < b) (p : PInv c a b G i j) (hq : PartQ E cs h0 x c a b R G Q) :
    LoopR (slices_partitionCmpFuncG.l14 C E Q x (.int .i64 (a : Int)) f (.int .i64 (j : Int))) [.int .i64 (i : Int)] h := by
  refine LoopR.intro (fun t vs hh => hh = h ∧ ∃ i' : Nat, i' + t = b ∧ vs = [.int .i64 (i' : Int)] ∧ PInv c a b G i' j) (b - i) ?_ ⟨rfl, i, by have := p.hij; have := p.hj; omega, rfl, p⟩
  rintro Y t vs hh ⟨rfl, i', hit, rfl, p⟩ hY
  have k1 := p.hi; have k2 := p.hij; have k3 := p.hj; have k4 := p.hb
  have la : a < G.length := by omega
  simp -dsimp only [slices_partitionCmpFuncG.l14, slices_partitionCmpFuncG.k13, leqN, B.pv_some]
  by_cases hle : i' ≤ j
  · have li : i' < G.length := by omega
    simp -dsimp only [hle, decide_true, B.gd_t, B.gdb_true, ho.idx li, ho.idx la, B.pv_some]
    refine ho.ld S (List.getElem?_eq_getElem li) ?_
    refine ho.ld S (List.getElem?_eq_getElem la) ?_
    refine hc.call _ _ _ _ ho.le ?_
    simp -dsimp only [hle, decide_true, B.gd_t, B.gdb_true, V.bin_lss, B.pick_t, B.pv_some]
    refine B.cond_bool (fun hd => ?_) (fun hd => ?_)
    · have hd' : c G[i'] G[a] < 0 := by simpa using hd
      simp -dsimp only [add1 (show i' < 4611686018427387904 by omega), B.pv_some]
      refine hY (b - (i' + 1)) _ _ (by omega) ⟨rfl, i' + 1, by omega, rfl, ⟨k4, by omega, k3, by omega, fun k hk ha q1 q2 => ?_, p.hi2⟩⟩
      by_cases e : k = i'
      · subst e; exact hd'
      · exact p.lo k hk ha q1 (by omega)
    · have hd' : ¬ c G[i'] G[a] < 0 := by simpa using hd
      exact part_j1 S hc ho hl hab p (.inr fun _ _ => hd') hq
  · simp -dsimp only [hle, decide_false, B.gd_t, B.gdb_false, B.pick_f, B.cond_false]
    exact part_j1 S hc ho hl hab p (.inl (by omega)) hq
/-- A range is parted. -/
theorem partition_spec (S : SeqSpec E cs v) (hc : CmpSpec C v c f h0) (ho : Rw E cs h0 h x G R) (hl : G.length < 4611686018427387904) {pv : Nat} (hp1 : a ≤ pv) (hp2 : pv < b) (hb : b ≤ G.length) (hq : PartQ E cs h0 x c a b R G Q) :
    slices_partitionCmpFuncG.cps C E x (.int .i64 (a : Int)) (.int .i64 (b : Int)) (.int .i64 (pv : Int)) f h Q := by
  have la : a < G.length := by omega
  have lp : pv < G.length := by omega
  simp -dsimp only [slices_partitionCmpFuncG.cps, slices_partitionCmpFuncG.k16, ho.idx lp, ho.idx la, B.pv_some]
  refine ho.ld S (List.getElem?_eq_getElem lp) ?_
  refine ho.ld S (List.getElem?_eq_getElem la) ?_
  refine ho.st S (t := G[pv]) la fun h1 o1 => ?_
  refine o1.st S (t := G[a]) (by simpa using lp) fun h2 o2 => ?_
  have e1' : V.bin .sub (.int .i64 (b : Int)) (.int .i64 1) = some (.int .i64 ((b - 1 : Nat) : Int)) := subNN (a := b) (b := 1) (by omega) (by omega)
  simp -dsimp only [slices_partitionCmpFuncG.k15, add1 (show a < 4611686018427387904 by omega), e1', B.pv_some]
  have W := swp_within la lp (Nat.le_refl _) (by omega) hp1 hp2
  have hsl := swp_len la lp
  refine part_i1 S hc (G := swp G a pv la lp) o2 (by omega) (by omega) ⟨by omega, by omega, by omega, by omega, fun k _ _ q1 q2 => by omega, fun k _ _ q1 q2 => by omega⟩ fun h' m G' t P' W' o' => hq h' m G' t P' (W.trans W') o'
end
end Go.Ab

/- What is proved: the library's quick sort, generic: those that are the same as the pivot are put ahead. No conditions. -/
set_option linter.unusedVariables false
set_option linter.unusedSimpArgs false
namespace Go.Ab
variable {C : CSem}
/-- Parted so far: not above the first up to i, above it behind j. -/
structure EInv {X : Type} (c : X → X → Int) (a b : Nat) (G : List X) (i j : Nat) : Prop where
  hb : b ≤ G.length
  hi : a < i
  hj : j < b
  hij : i ≤ j + 1
  lo : ∀ k (h : k < G.length) (ha : a < G.length), a < k → k < i → ¬ c G[a] G[k] < 0
  hi2 : ∀ k (h : k < G.length) (ha : a < G.length), j < k → k < b → c G[a] G[k] < 0
theorem EInv.swap {X : Type} {c : X → X → Int} {a b i j : Nat} {G : List X} (p : EInv c a b G i j) (hc : i ≤ j) (hi : i < G.length) (hj : j < G.length) (ha : a < G.length) (h1 : c G[a] G[i] < 0) (h2 : ¬ c G[a] G[j] < 0) : EInv c a b (swp G i j hi hj) (i + 1) (j - 1) := by
  have k1 := p.hi; have k2 := p.hij; have k3 := p.hj; have k4 := p.hb
  have hne : i ≠ j := fun e => by subst e; exact h2 h1
  have hl := swp_len hi hj
  have pa : ∀ (hm : a < (swp G i j hi hj).length), (swp G i j hi hj)[a] = G[a] := fun hm => by rw [swp_at hi hj hm ha, if_neg (by omega), if_neg (by omega)]
  refine ⟨by omega, by omega, by omega, by omega, fun k hk hm q1 q2 => ?_, fun k hk hm q1 q2 => ?_⟩
  · rw [pa, swp_at hi hj hk (by omega), if_neg (by omega)]
    by_cases e : k = i
    · rw [if_pos e]; exact h2
    · rw [if_neg e]; exact p.lo k (by omega) ha q1 (by omega)
  · rw [pa, swp_at hi hj hk (by omega)]
    by_cases e : k = j
    · rw [if_pos e]; exact h1
    · rw [if_neg e, if_neg (by omega)]; exact p.hi2 k (by omega) ha (by omega) q2
section
variable {E : ElOps} {X : Type} {cs : X → List AVal} {v : X → AVal} {h0 h : AHeap} {x f : AVal} {G : List X} {R : List (List AVal)} {c : X → X → Int} {Q : AVal → AHeap → Prop} {Y1 : List AVal → AHeap → Prop} {a b i j : Nat}
theorem eq_j (S : SeqSpec E cs v) (hc : CmpSpec C v c f h0) (ho : Rw E cs h0 h x G R) (hl : G.length < 4611686018427387904) (hab : a < b) (p : EInv c a b G i j) (hi0 : j < i ∨ ∀ (h1 : i < G.length) (h2 : a < G.length), c G[a] G[i] < 0)
    (done : ∀ h' j', EInv c a b G i j' → j' < i → Rw E cs h0 h' x G R → Q (.int .i64 (i : Int)) h')
    (next : ∀ h' j' (hi : i < G.length) (hj : j' < G.length), EInv c a b (swp G i j' hi hj) (i + 1) (j' - 1) → i < j' → j' < b → Rw E cs h0 h' x (swp G i j' hi hj) R → Y1 [.int .i64 ((i + 1 : Nat) : Int), .int .i64 ((j' - 1 : Nat) : Int)] h') :
    LoopR (slices_partitionEqualCmpFuncG.l3 C E Q Y1 x (.int .i64 (a : Int)) f (.int .i64 (i : Int))) [.int .i64 (j : Int)] h := by
  refine LoopR.intro (fun t vs hh => hh = h ∧ ∃ j' : Nat, t = j' ∧ vs = [.int .i64 (j' : Int)] ∧ EInv c a b G i j' ∧ (j' < i ∨ ∀ (h1 : i < G.length) (h2 : a < G.length), c G[a] G[i] < 0)) j ?_ ⟨rfl, j, rfl, rfl, p, hi0⟩
  rintro Y j' vs hh ⟨rfl, _, rfl, rfl, p, hi0⟩ hY
  have k1 := p.hi; have k2 := p.hij; have k3 := p.hj; have k4 := p.hb
  have la : a < G.length := by omega
  have lj : j' < G.length := by omega
  simp -dsimp only [slices_partitionEqualCmpFuncG.l3, slices_partitionEqualCmpFuncG.k2, leqN, B.pv_some]
  by_cases hle : i ≤ j'
  · have li : i < G.length := by omega
    simp -dsimp only [hle, decide_true, B.gd_t, B.gdb_true, ho.idx lj, ho.idx la, B.pv_some]
    refine ho.ld S (List.getElem?_eq_getElem la) ?_
    refine ho.ld S (List.getElem?_eq_getElem lj) ?_
    refine hc.call _ _ _ _ ho.le ?_
    simp -dsimp only [hle, decide_true, B.gd_t, B.gdb_true, V.bin_lss, B.pick_t, B.pv_some]
    refine B.cond_bool (fun hd => ?_) (fun hd => ?_)
    · have hd' : c G[a] G[j'] < 0 := by simpa using hd
      have e1' : V.bin .sub (.int .i64 (j' : Int)) (.int .i64 1) = some (.int .i64 ((j' - 1 : Nat) : Int)) := subNN (a := j') (b := 1) (by omega) (by omega)
      simp -dsimp only [e1', B.pv_some]
      refine hY (j' - 1) _ _ (by omega) ⟨rfl, j' - 1, rfl, rfl, ⟨k4, k1, by omega, by omega, p.lo, fun k hk ha q1 q2 => ?_⟩, ?_⟩
      · by_cases e : k = j'
        · subst e; exact hd'
        · exact p.hi2 k hk ha (by omega) q2
      · rcases hi0 with h | h
        · omega
        · exact .inr h
    · have hd' : ¬ c G[a] G[j'] < 0 := by simpa using hd
      have hni : c G[a] G[i] < 0 := by
        rcases hi0 with h | h
        · omega
        · exact h li la
      simp -dsimp only [slices_partitionEqualCmpFuncG.k1, gtrN, show ¬ j' < i by omega, decide_false, B.cond_false, ho.idx lj, ho.idx li, B.pv_some]
      refine ho.ld S (List.getElem?_eq_getElem lj) ?_
      refine ho.ld S (List.getElem?_eq_getElem li) ?_
      refine ho.st S (t := G[j']) li fun h1 o1 => ?_
      refine o1.st S (t := G[i]) (by simpa using lj) fun h2 o2 => ?_
      have e1' : V.bin .sub (.int .i64 (j' : Int)) (.int .i64 1) = some (.int .i64 ((j' - 1 : Nat) : Int)) := subNN (a := j') (b := 1) (by omega) (by omega)
      simp -dsimp only [add1 (show i < 4611686018427387904 by omega), e1', B.pv_some]
      have hne : i ≠ j' := fun e => by subst e; exact hd' hni
      exact next h2 j' li lj (p.swap hle li lj la hni hd') (by omega) k3 o2
  · simp -dsimp only [hle, decide_false, B.gd_t, B.gdb_false, B.pick_f, B.cond_false, slices_partitionEqualCmpFuncG.k1, gtrN, show j' < i by omega, decide_true, B.cond_true, B.pv_some]
    exact done hh j' p (by omega) ho
theorem eq_i (S : SeqSpec E cs v) (hc : CmpSpec C v c f h0) (ho : Rw E cs h0 h x G R) (hl : G.length < 4611686018427387904) (hab : a < b) (p : EInv c a b G i j)
    (done : ∀ h' i' j', EInv c a b G i' j' → j' < i' → Rw E cs h0 h' x G R → Q (.int .i64 (i' : Int)) h')
    (next : ∀ h' i' j' (hi : i' < G.length) (hj : j' < G.length), EInv c a b (swp G i' j' hi hj) (i' + 1) (j' - 1) → a < i' → i ≤ i' → i' < j' → j' < b → Rw E cs h0 h' x (swp G i' j' hi hj) R → Y1 [.int .i64 ((i' + 1 : Nat) : Int), .int .i64 ((j' - 1 : Nat) : Int)] h') :
    LoopR (slices_partitionEqualCmpFuncG.l5 C E Q Y1 x (.int .i64 (a : Int)) f (.int .i64 (j : Int))) [.int .i64 (i : Int)] h := by
  refine LoopR.intro (fun t vs hh => hh = h ∧ ∃ i' : Nat, i' + t = b ∧ i ≤ i' ∧ vs = [.int .i64 (i' : Int)] ∧ EInv c a b G i' j) (b - i) ?_ ⟨rfl, i, by have := p.hij; have := p.hj; omega, Nat.le_refl _, rfl, p⟩
  rintro Y t vs hh ⟨rfl, i', hit, hii, rfl, p⟩ hY
  have k1 := p.hi; have k2 := p.hij; have k3 := p.hj; have k4 := p.hb
  have la : a < G.length := by omega
  simp -dsimp only [slices_partitionEqualCmpFuncG.l5, slices_partitionEqualCmpFuncG.k4, leqN, B.pv_some]
  by_cases hle : i' ≤ j
  · have li : i' < G.length := by omega
    simp -dsimp only [hle, decide_true, B.gd_t, B.gdb_true, ho.idx li, ho.idx la, B.pv_some]
    refine ho.ld S (List.getElem?_eq_getElem la) ?_
    refine ho.ld S (List.getElem?_eq_getElem li) ?_
    refine hc.call _ _ _ _ ho.le ?_
    simp -dsimp only [hle, decide_true, B.gd_t, B.gdb_true, V.bin_lss, V.un_not, B.pick_t, B.pv_some]
    refine B.cond_bool (fun hd => ?_) (fun hd => ?_)
    · have hd' : ¬ c G[a] G[i'] < 0 := by simpa using hd
      simp -dsimp only [add1 (show i' < 4611686018427387904 by omega), B.pv_some]
      refine hY (b - (i' + 1)) _ _ (by omega) ⟨rfl, i' + 1, by omega, by omega, rfl, ⟨k4, by omega, k3, by omega, fun k hk ha q1 q2 => ?_, p.hi2⟩⟩
      by_cases e : k = i'
      · subst e; exact hd'
      · exact p.lo k hk ha q1 (by omega)
    · have hd' : c G[a] G[i'] < 0 := by simpa using hd
      exact eq_j S hc ho hl hab p (.inr fun _ _ => hd') (fun h' j' p' hlt o' => done h' i' j' p' hlt o') fun h' j' hi hj p' h1 h2 o' => next h' i' j' hi hj p' k1 hii h1 h2 o'
  · simp -dsimp only [hle, decide_false, B.gd_t, B.gdb_false, B.pick_f, B.cond_false]
    exact eq_j S hc ho hl hab p (.inl (by omega)) (fun h' j' p' hlt o' => done h' i' j' p' hlt o') fun h' j' hi hj p' h1 h2 o' => next h' i' j' hi hj p' k1 hii h1 h2 o'
theorem eq_main (S : SeqSpec E cs v) (hc : CmpSpec C v c f h0) (ho : Rw E cs h0 h x G R) (hl : G.length < 4611686018427387904) (hab : a < b) (p : EInv c a b G i j)
    (hq : ∀ h' i' j' G', EInv c a b G' i' j' → j' < i' → Within (a + 1) b G G' → Rw E cs h0 h' x G' R → Q (.int .i64 (i' : Int)) h') :
    LoopR (slices_partitionEqualCmpFuncG.l6 C E Q x (.int .i64 (a : Int)) f) [.int .i64 (i : Int), .int .i64 (j : Int)] h := by
  refine LoopR.intro (fun t vs hh => ∃ (i' j' : Nat) (G' : List X), i' + t = b ∧ vs = [.int .i64 (i' : Int), .int .i64 (j' : Int)] ∧ Within (a + 1) b G G' ∧ EInv c a b G' i' j' ∧ Rw E cs h0 hh x G' R) (b - i) ?_ ⟨i, j, G, by have := p.hij; have := p.hj; omega, rfl, Within.refl _ _ _, p, ho⟩
  rintro Y t vs hh ⟨i', j', G', hit, rfl, W, p, o⟩ hY
  have hlen := W.len
  simp -dsimp only [slices_partitionEqualCmpFuncG.l6]
  refine eq_i S hc o (by omega) hab p (fun h' i2 j2 p2 hlt o2 => hq h' i2 j2 G' p2 hlt W o2) fun h' i2 j2 hi hj p2 h1 h2 h3 h4 o2 => ?_
  exact hY (b - (i2 + 1)) _ _ (by omega) ⟨i2 + 1, j2 - 1, _, by omega, rfl, W.trans (swp_within hi hj (by omega) (by omega) (by omega) h4), p2, o2⟩
/-- Those that are not above the pivot come first. -/
theorem partitionEqual_spec (S : SeqSpec E cs v) (hc : CmpSpec C v c f h0) (ho : Rw E cs h0 h x G R) (hl : G.length < 4611686018427387904) {pv : Nat} (hp1 : a ≤ pv) (hp2 : pv < b) (hb : b ≤ G.length)
    (hq : ∀ h' i' j' G', EInv c a b G' i' j' → j' < i' → Within a b G G' → (∀ (h1 : a < G'.length) (h2 : pv < G.length), G'[a] = G[pv]) → Rw E cs h0 h' x G' R → Q (.int .i64 (i' : Int)) h') :
    slices_partitionEqualCmpFuncG.cps C E x (.int .i64 (a : Int)) (.int .i64 (b : Int)) (.int .i64 (pv : Int)) f h Q := by
  have la : a < G.length := by omega
  have lp : pv < G.length := by omega
  simp -dsimp only [slices_partitionEqualCmpFuncG.cps, slices_partitionEqualCmpFuncG.k8, ho.idx lp, ho.idx la, B.pv_some]
  refine ho.ld S (List.getElem?_eq_getElem lp) ?_
  refine ho.ld S (List.getElem?_eq_getElem la) ?_
  refine ho.st S (t := G[pv]) la fun h1 o1 => ?_
  refine o1.st S (t := G[a]) (by simpa using lp) fun h2 o2 => ?_
  have e1' : V.bin .sub (.int .i64 (b : Int)) (.int .i64 1) = some (.int .i64 ((b - 1 : Nat) : Int)) := subNN (a := b) (b := 1) (by omega) (by omega)
  simp -dsimp only [slices_partitionEqualCmpFuncG.k7, add1 (show a < 4611686018427387904 by omega), e1', B.pv_some]
  have W := swp_within la lp (Nat.le_refl _) (by omega) hp1 hp2
  have hsl := swp_len la lp
  refine eq_main S hc (G := swp G a pv la lp) o2 (by omega) (by omega) ⟨by omega, by omega, by omega, by omega, fun k _ _ q1 q2 => by omega, fun k _ _ q1 q2 => by omega⟩ fun h' i' j' G' p' hlt W' o' => hq h' i' j' G' p' hlt (W.trans (W'.mono (by omega) (Nat.le_refl _))) (fun h1 h2 => ?_) o'
  rw [W'.same (.inl (by omega)) h1 (by omega), swp_at la lp (by omega) la]
  split
  · rename_i e; simp only [e]
  · rw [if_pos rfl]
end
end Go.Ab

/- What is proved: the library's quick sort, generic: heaps, plain. No conditions. -/
set_option linter.unusedVariables false
set_option linter.unusedSimpArgs false
namespace Go.Ab
/-- A heap of n places from a on, below every parent from lo on, but for r. -/
structure SInv {X : Type} (c : X → X → Int) (a n lo r : Nat) (G : List X) : Prop where
  len : a + n ≤ G.length
  heap : ∀ k, 0 < k → (hk : k < n) → lo ≤ (k - 1) / 2 → (k - 1) / 2 ≠ r → (h1 : a + (k - 1) / 2 < G.length) → (h2 : a + k < G.length) → ¬ c G[a + (k - 1) / 2] G[a + k] < 0
  grand : lo ≤ (r - 1) / 2 → 0 < r → ∀ k, 0 < k → (hk : k < n) → (k - 1) / 2 = r → (h1 : a + (r - 1) / 2 < G.length) → (h2 : a + k < G.length) → ¬ c G[a + (r - 1) / 2] G[a + k] < 0
/-- A heap. -/
def Heap {X : Type} (c : X → X → Int) (a n lo : Nat) (G : List X) : Prop := ∀ k, 0 < k → (hk : k < n) → lo ≤ (k - 1) / 2 → (h1 : a + (k - 1) / 2 < G.length) → (h2 : a + k < G.length) → ¬ c G[a + (k - 1) / 2] G[a + k] < 0
section
variable {X : Type} {c : X → X → Int} {a n lo r ch : Nat} {G : List X}
theorem SInv.done (p : SInv c a n lo r G) (hr : ∀ k, 0 < k → k < n → (k - 1) / 2 = r → (h1 : a + r < G.length) → (h2 : a + k < G.length) → ¬ c G[a + r] G[a + k] < 0) : Heap c a n lo G := fun k h0 hk hl h1 h2 => by
  by_cases e : (k - 1) / 2 = r
  · have := hr k h0 hk e (by rw [← e]; exact h1) h2
    simp only [e]; exact this
  · exact p.heap k h0 hk hl e h1 h2
theorem SInv.step (W : Weak (lessC c)) (p : SInv c a n lo r G) (hlo : lo ≤ r) (hch : ch < n) (hp : (ch - 1) / 2 = r) (h0 : 0 < ch) (hr : a + r < G.length) (hc : a + ch < G.length) (hlt : c G[a + r] G[a + ch] < 0)
    (hmax : ∀ k, 0 < k → k < n → (k - 1) / 2 = r → (h2 : a + k < G.length) → ¬ c G[a + ch] G[a + k] < 0) : SInv c a n lo ch (swp G (a + r) (a + ch) hr hc) := by
  have hl := swp_len hr hc
  have hrc : r < ch := by omega
  have asym : ¬ c G[a + ch] G[a + r] < 0 := by
    have := W.asym (a := G[a + r]) (b := G[a + ch]) (by unfold lessC; exact decide_eq_true hlt)
    unfold lessC at this; exact of_decide_eq_false this
  refine ⟨by rw [hl]; exact p.len, fun k k0 hk hlk hne h1 h2 => ?_, fun _ _ k k0 hk hkp h1 h2 => ?_⟩
  · have g1 : a + (k - 1) / 2 < G.length := by omega
    have g2 : a + k < G.length := by omega
    rw [swp_at hr hc h1 g1, swp_at hr hc h2 g2, if_neg (by omega : ¬ a + (k - 1) / 2 = a + ch)]
    by_cases e1 : (k - 1) / 2 = r
    · rw [if_pos (by omega)]
      by_cases e2 : k = ch
      · rw [if_pos (by omega)]; exact asym
      · rw [if_neg (by omega), if_neg (by omega)]; exact hmax k k0 hk e1 g2
    · rw [if_neg (by omega)]
      by_cases e2 : k = r
      · rw [if_neg (by omega), if_pos (by omega)]
        subst e2
        exact p.grand hlk k0 ch h0 hch hp g1 hc
      · rw [if_neg (by omega), if_neg (by omega)]; exact p.heap k k0 hk hlk e1 g1 g2
  · have g1 : a + (ch - 1) / 2 < G.length := by omega
    have g2 : a + k < G.length := by omega
    rw [swp_at hr hc h1 g1, swp_at hr hc h2 g2, if_neg (by omega), if_pos (by omega), if_neg (by omega), if_neg (by omega)]
    have := p.heap k k0 hk (by omega) (by omega) (by omega) g2
    simp only [hkp] at this
    exact this
end
end Go.Ab

/- What is proved: the library's quick sort, generic: siftDown. No conditions. -/
set_option linter.unusedVariables false
set_option linter.unusedSimpArgs false
namespace Go.Ab
variable {C : CSem}
section
variable {E : ElOps} {X : Type} {cs : X → List AVal} {v : X → AVal} {h0 h : AHeap} {x f : AVal} {G : List X} {R : List (List AVal)} {c : X → X → Int} {Q : AVal → AHeap → Prop} {Y1 : List AVal → AHeap → Prop} {a n lo r ch : Nat}
/-- The greater child is known. -/
theorem sift_k1 (S : SeqSpec E cs v) (W : Weak (lessC c)) (hc : CmpSpec C v c f h0) (ho : Rw E cs h0 h x G R) (hl : G.length < 1000000000) (p : SInv c a n lo r G) (hlo : lo ≤ r) (hch : ch < n) (hp : (ch - 1) / 2 = r) (hc0 : 0 < ch)
    (hmax : ∀ k, 0 < k → k < n → (k - 1) / 2 = r → (h1 : a + ch < G.length) → (h2 : a + k < G.length) → ¬ c G[a + ch] G[a + k] < 0)
    (done : ∀ h', Heap c a n lo G → Rw E cs h0 h' x G R → Q (.tup []) h')
    (next : ∀ h' (hr : a + r < G.length) (hcl : a + ch < G.length), SInv c a n lo ch (swp G (a + r) (a + ch) hr hcl) → Rw E cs h0 h' x (swp G (a + r) (a + ch) hr hcl) R → Y1 [.int .i64 (ch : Int)] h') :
    slices_siftDownCmpFuncG.k1 C E Q Y1 x (.int .i64 (n : Int)) (.int .i64 (a : Int)) f (.int .i64 (r : Int)) (.int .i64 (ch : Int)) h := by
  have hlen := p.len
  have lr : a + r < G.length := by omega
  have lc : a + ch < G.length := by omega
  have ar := addNN (a := a) (b := r) (by omega)
  have ac := addNN (a := a) (b := ch) (by omega)
  simp -dsimp only [slices_siftDownCmpFuncG.k1, ar, ac, ho.idx lr, ho.idx lc, B.pv_some]
  refine ho.ld S (List.getElem?_eq_getElem lr) ?_
  refine ho.ld S (List.getElem?_eq_getElem lc) ?_
  refine hc.call _ _ _ _ ho.le ?_
  simp -dsimp only [V.bin_lss, V.un_not, B.pv_some]
  refine B.cond_bool (fun hd => ?_) (fun hd => ?_)
  · have hd' : ¬ c G[a + r] G[a + ch] < 0 := by simpa using hd
    refine done h (p.done fun k k0 hk hkp h1 h2 => ?_) ho
    have := W.ntrans (a := G[a + r]) (b := G[a + ch]) (c := G[a + k]) (by unfold lessC; exact decide_eq_false hd') (by unfold lessC; exact decide_eq_false (hmax k k0 hk hkp lc h2))
    unfold lessC at this; exact of_decide_eq_false this
  · have hd' : c G[a + r] G[a + ch] < 0 := by simpa using hd
    simp -dsimp only [ar, ac, ho.idx lr, ho.idx lc, B.pv_some]
    refine ho.ld S (List.getElem?_eq_getElem lc) ?_
    refine ho.ld S (List.getElem?_eq_getElem lr) ?_
    refine ho.st S (t := G[a + ch]) lr fun h1 o1 => ?_
    refine o1.st S (t := G[a + r]) (by simpa using lc) fun h2 o2 => ?_
    exact next h2 lr lc (p.step W hlo hch hp hc0 lr lc hd' fun k k0 hk hkp h2 => hmax k k0 hk hkp lc h2) o2
/-- One comes down to its place. -/
theorem siftDown_spec (S : SeqSpec E cs v) (W : Weak (lessC c)) (hc : CmpSpec C v c f h0) (ho : Rw E cs h0 h x G R) (hl : G.length < 1000000000) (p : SInv c a n lo r G) (hlo : lo ≤ r) (hrn : r ≤ n) {b : Nat} (hb : a + n ≤ b)
    (hq : ∀ h' G', Heap c a n lo G' → Within a b G G' → Rw E cs h0 h' x G' R → Q (.tup []) h') :
    slices_siftDownCmpFuncG.cps C E x (.int .i64 (r : Int)) (.int .i64 (n : Int)) (.int .i64 (a : Int)) f h Q := by
  simp -dsimp only [slices_siftDownCmpFuncG.cps]
  refine LoopR.intro (fun t vs hh => ∃ (r' : Nat) (G' : List X), r' + t = n ∧ vs = [.int .i64 (r' : Int)] ∧ lo ≤ r' ∧ SInv c a n lo r' G' ∧ Within a b G G' ∧ Rw E cs h0 hh x G' R) (n - r) ?_ ⟨r, G, by omega, rfl, hlo, p, Within.refl _ _ _, ho⟩
  rintro Y t vs hh ⟨r', G', hrt, rfl, hlo', p', W', o⟩ hY
  have hlen := W'.len
  have pl := p'.len
  have e1 : V.bin .mul (.int .i64 2) (.int .i64 (r' : Int)) = some (.int .i64 ((2 * r' : Nat) : Int)) := mulN (a := 2) (b := r') (by omega)
  simp -dsimp only [slices_siftDownCmpFuncG.l4, slices_siftDownCmpFuncG.k3, e1, add1 (show 2 * r' < 4611686018427387904 by omega), geqN, B.pv_some]
  refine B.cond_bool (fun hd => ?_) (fun hd => ?_)
  · rw [decide_eq_true_eq] at hd
    exact hq hh G' (p'.done fun k k0 hk hkp _ _ => by omega) W' o
  · rw [decide_eq_false_iff_not] at hd
    have fin : ∀ ch, ch < n → (ch - 1) / 2 = r' → 0 < ch → (∀ k, 0 < k → k < n → (k - 1) / 2 = r' → (h1 : a + ch < G'.length) → (h2 : a + k < G'.length) → ¬ c G'[a + ch] G'[a + k] < 0) → slices_siftDownCmpFuncG.k1 C E Q Y x (.int .i64 (n : Int)) (.int .i64 (a : Int)) f (.int .i64 (r' : Int)) (.int .i64 (ch : Int)) hh := fun ch c1 c2 c3 c4 =>
      sift_k1 S W hc o (by omega) p' hlo' c1 c2 c3 c4 (fun h' hp o' => hq h' G' hp W' o') fun h' hr hcl p2 o2 => hY (n - ch) _ _ (by omega) ⟨ch, _, by omega, rfl, by omega, p2, W'.trans (swp_within hr hcl (by omega) (by omega) (by omega) (by omega)), o2⟩
    have irr : ∀ t : X, ¬ c t t < 0 := fun t => by
      have := W.irr t; unfold lessC at this; exact of_decide_eq_false this
    have a1 := addNN (a := a) (b := 2 * r' + 1) (by omega)
    simp -dsimp only [slices_siftDownCmpFuncG.k2, add1 (show 2 * r' + 1 < 4611686018427387904 by omega), lssN, B.pv_some]
    by_cases h2 : 2 * r' + 1 + 1 < n
    · have l1 : a + (2 * r' + 1) < G'.length := by omega
      have l2 : a + (2 * r' + 1) + 1 < G'.length := by omega
      simp -dsimp only [h2, decide_true, B.gd_t, B.gdb_true, a1, add1 (show a + (2 * r' + 1) < 4611686018427387904 by omega), o.idx l1, o.idx l2, B.pv_some]
      refine o.ld S (List.getElem?_eq_getElem l1) ?_
      refine o.ld S (List.getElem?_eq_getElem l2) ?_
      refine hc.call _ _ _ _ o.le ?_
      simp -dsimp only [h2, decide_true, B.gd_t, B.gdb_true, V.bin_lss, B.pick_t, B.pv_some]
      refine B.cond_bool (fun hf => ?_) (fun hf => ?_)
      · have hf' : c G'[a + (2 * r' + 1)] G'[a + (2 * r' + 1) + 1] < 0 := by simpa using hf
        simp -dsimp only [add1 (show 2 * r' + 1 < 4611686018427387904 by omega), B.pv_some]
        refine fin (2 * r' + 1 + 1) h2 (by omega) (by omega) fun k k0 hk hkp h1 h3 => ?_
        rcases (show k = 2 * r' + 1 ∨ k = 2 * r' + 1 + 1 by omega) with rfl | rfl
        · have := W.asym (a := G'[a + (2 * r' + 1)]) (b := G'[a + (2 * r' + 1) + 1]) (by unfold lessC; exact decide_eq_true hf')
          unfold lessC at this; exact of_decide_eq_false this
        · exact irr _
      · have hf' : ¬ c G'[a + (2 * r' + 1)] G'[a + (2 * r' + 1) + 1] < 0 := by simpa using hf
        refine fin (2 * r' + 1) (by omega) (by omega) (by omega) fun k k0 hk hkp h1 h3 => ?_
        rcases (show k = 2 * r' + 1 ∨ k = 2 * r' + 1 + 1 by omega) with rfl | rfl
        · exact irr _
        · exact hf'
    · simp -dsimp only [h2, decide_false, B.gd_t, B.gdb_false, B.pick_f, B.cond_false]
      refine fin (2 * r' + 1) (by omega) (by omega) (by omega) fun k k0 hk hkp h1 h3 => ?_
      have : k = 2 * r' + 1 := by omega
      subst this; exact irr _
end
end Go.Ab

/- What is proved: the library's quick sort, generic: what is in order; heap sort; insertion sort of a range. No conditions. -/
set_option linter.unusedVariables false
set_option linter.unusedSimpArgs false
namespace Go.Ab
section
variable {X : Type} {c : X → X → Int} {a b n lo : Nat} {G G' : List X}
theorem Heap.sinv {X : Type} {c : X → X → Int} {a n lo : Nat} {G : List X} (p : Heap c a n (lo + 1) G) (hl : a + n ≤ G.length) : SInv c a n lo lo G :=
  ⟨hl, fun k k0 hk h1 hne h2 h3 => p k k0 hk (by omega) h2 h3, fun h1 h0 => by omega⟩
theorem Heap.none_ {X : Type} {c : X → X → Int} {a n lo : Nat} {G : List X} (h : n ≤ 2 * lo + 1) : Heap c a n lo G := fun k k0 hk h1 _ _ => by omega
/-- The root is no less than any. -/
theorem Heap.root (W : Weak (lessC c)) (p : Heap c a n 0 G) (hl : a + n ≤ G.length) : ∀ (k : Nat) (hk : k < n), ¬ c (G[a]'(by omega)) (G[a + k]'(by omega)) < 0 := by
  intro k
  induction k using Nat.strongRecOn with
  | ind k ih =>
    intro hk
    by_cases e : k = 0
    · subst e
      have := W.irr (G[a]'(by omega)); unfold lessC at this; simpa using this
    · have h1 := ih ((k - 1) / 2) (by omega) (by omega)
      have h2 := p k (by omega) hk (by omega) (by omega) (by omega)
      have := W.ntrans (a := G[a]'(by omega)) (b := G[a + (k - 1) / 2]'(by omega)) (c := G[a + k]'(by omega)) (by unfold lessC; exact decide_eq_false h1) (by unfold lessC; exact decide_eq_false h2)
      unfold lessC at this; exact of_decide_eq_false this
theorem Within.take (w : Within a b G G') : G'.take a = G.take a := List.ext_getElem? fun i => by
  rw [List.getElem?_take, List.getElem?_take]
  split
  · rename_i h; exact w.out i (.inl h)
  · rfl
theorem Within.drop (w : Within a b G G') : G'.drop b = G.drop b := List.ext_getElem? fun i => by
  rw [List.getElem?_drop, List.getElem?_drop]; exact w.out (b + i) (.inr (by omega))
theorem split3 (hab : a ≤ b) (G : List X) : G = G.take a ++ ((G.take b).drop a ++ G.drop b) := by
  have h1 : G.take a = (G.take b).take a := by rw [List.take_take, Nat.min_eq_left hab]
  rw [h1, ← List.append_assoc, List.take_append_drop, List.take_append_drop]
theorem Within.mid (w : Within a b G G') (hab : a ≤ b) : ((G'.take b).drop a).Perm ((G.take b).drop a) := by
  have h := w.perm
  rw [split3 hab G, split3 hab G', w.take, w.drop] at h
  exact (List.perm_append_right_iff _).1 ((List.perm_append_left_iff _).1 h)
/-- What stands in the range stood in the range. -/
theorem Within.mem (w : Within a b G G') {k : Nat} (h1 : a ≤ k) (h2 : k < b) (hk : k < G'.length) : ∃ k', a ≤ k' ∧ k' < b ∧ ∃ h' : k' < G.length, G'[k] = G[k'] := by
  have hm : G'[k] ∈ (G'.take b).drop a := by
    rw [List.mem_iff_getElem?]
    refine ⟨k - a, ?_⟩
    rw [List.getElem?_drop, List.getElem?_take, if_pos (by omega), Nat.add_sub_cancel' h1, List.getElem?_eq_getElem hk]
  have := (w.mid (by omega)).mem_iff.1 hm
  rw [List.mem_iff_getElem?] at this
  obtain ⟨i, hi⟩ := this
  rw [List.getElem?_drop, List.getElem?_take] at hi
  split at hi
  · rename_i hlt
    obtain ⟨hb, e⟩ := List.getElem?_eq_some_iff.1 hi
    exact ⟨a + i, by omega, hlt, hb, e.symm⟩
  · cases hi
/-- In order between all but where both stand in [a,b). -/
def Cut {X : Type} (c : X → X → Int) (A B a b : Nat) (G : List X) : Prop := ∀ p q, A ≤ p → p < q → q < B → p < a ∨ b ≤ q → ∀ (h1 : p < G.length) (h2 : q < G.length), ¬ c G[q] G[p] < 0
/-- In order. -/
def Srt {X : Type} (c : X → X → Int) (A B : Nat) (G : List X) : Prop := ∀ p q, A ≤ p → p < q → q < B → ∀ (h1 : p < G.length) (h2 : q < G.length), ¬ c G[q] G[p] < 0
theorem Cut.within {A B : Nat} (x : Cut c A B a b G) (w : Within a b G G') (ha : A ≤ a) (hb : b ≤ B) : Cut c A B a b G' := fun p q hp hpq hq h h1 h2 => by
  have hl := w.len
  rcases h with h | h
  · rw [w.same (.inl h) h1 (by omega)]
    by_cases hq2 : a ≤ q ∧ q < b
    · obtain ⟨q', h3, h4, h5, e⟩ := w.mem hq2.1 hq2.2 h2
      rw [e]; exact x p q' hp (by omega) (by omega) (.inl h) (by omega) h5
    · rw [w.same (by omega) h2 (by omega)]; exact x p q hp hpq hq (.inl h) _ _
  · rw [w.same (k := q) (.inr h) h2 (by omega)]
    by_cases hp2 : a ≤ p ∧ p < b
    · obtain ⟨p', h3, h4, h5, e⟩ := w.mem hp2.1 hp2.2 h1
      rw [e]; exact x p' q (by omega) (by omega) hq (.inr h) h5 (by omega)
    · rw [w.same (k := p) (by omega) h1 (by omega)]; exact x p q hp hpq hq (.inr h) _ _
theorem Cut.join {A B : Nat} (x : Cut c A B a b G) (s : Srt c a b G) : Srt c A B G := fun p q hp hpq hq h1 h2 => by
  by_cases h : p < a ∨ b ≤ q
  · exact x p q hp hpq hq h h1 h2
  · exact s p q (by omega) hpq (by omega) h1 h2
theorem Cut.small {A B : Nat} (x : Cut c A B a b G) (s : b ≤ a + 1) : Srt c A B G := x.join fun p q _ _ _ _ _ => by omega
theorem within_mid {M : List X} (hab : a ≤ b) (hb : b ≤ G.length) (hp : M.Perm ((G.take b).drop a)) : Within a b G (G.take a ++ (M ++ G.drop b)) := by
  have hl := hp.length_eq
  simp only [List.length_drop, List.length_take] at hl
  refine ⟨?_, fun i hi => ?_⟩
  · have := (hp.append_right (G.drop b)).append_left (G.take a)
    rw [← split3 hab G] at this; exact this
  · rcases hi with hi | hi
    · rw [List.getElem?_append_left (by rw [List.length_take]; omega), List.getElem?_take, if_pos hi]
    · rw [List.getElem?_append_right (by rw [List.length_take]; omega), List.getElem?_append_right (by rw [List.length_take]; omega), List.getElem?_drop, List.length_take]
      congr 1; omega
theorem srt_mid {M : List X} (hab : a ≤ b) (hb : b ≤ G.length) (hl : M.length = b - a) (hp : M.Pairwise fun x y => ¬ c y x < 0) : Srt c a b (G.take a ++ (M ++ G.drop b)) := fun p q hp1 hpq hq h1 h2 => by
  have e : ∀ k (h1 : a ≤ k) (h2 : k < b) (hk : k < (G.take a ++ (M ++ G.drop b)).length), (G.take a ++ (M ++ G.drop b))[k] = M[k - a]'(by omega) := fun k h1 h2 hk => by
    rw [List.getElem_append_right (by rw [List.length_take]; omega), List.getElem_append_left (by rw [List.length_take]; omega)]
    congr 1; rw [List.length_take]; omega
  rw [e p hp1 (by omega), e q (by omega) hq]
  exact List.pairwise_iff_getElem.1 hp _ _ _ _ (by omega)
end
variable {C : CSem}
abbrev SiftI (C : CSem) (E : ElOps) (f1 : Nat) : Prop := ∀ (v0 v1 v2 v3 v4 : AVal) (h : AHeap) (Q : AVal → AHeap → Prop), slices_siftDownCmpFuncG.cps C E v0 v1 v2 v3 v4 h (dn Q) → C f1 [v0, v1, v2, v3, v4] h Q
section
variable {E : ElOps} {X : Type} {cs : X → List AVal} {v : X → AVal} {h0 h : AHeap} {x f : AVal} {G : List X} {R : List (List AVal)} {c : X → X → Int} {Q : AVal → AHeap → Prop} {a b : Nat}
/-- Insertion sort of a range. -/
theorem insertion_srt (S : SeqSpec E cs v) (W : Weak (lessC c)) (hc : CmpSpec C v c f h0) (ho : Rw E cs h0 h x G R) (hl : G.length ≤ 100000000) (hab : a ≤ b) (hb : b ≤ G.length)
    (hq : ∀ h' G', Within a b G G' → Srt c a b G' → Rw E cs h0 h' x G' R → Q (.tup []) h') : slices_insertionSortCmpFuncG.cps C E x (.int .i64 (a : Int)) (.int .i64 (b : Int)) f h Q := by
  have e0 : ∀ (L : List X), (L.map (fun y => (y, 0))).map (fun p : X × Nat => cs p.1) = L.map cs := fun L => by rw [List.map_map]; rfl
  have e1 : ∀ (L : List (X × Nat)), L.map (fun p : X × Nat => cs p.1) = (L.map (·.1)).map cs := fun L => by rw [List.map_map]; rfl
  have lt : (G.take a).length = a := by rw [List.length_take]; omega
  have lm : ((G.take b).drop a).length = b - a := by rw [List.length_drop, List.length_take]; omega
  refine insertionSort_spec (P := (G.take a).map (fun y => (y, 0))) (M := ((G.take b).drop a).zipIdx) (U := (G.drop b).map (fun y => (y, 0))) S W ?_ ?_ hc ?_ ?_ ?_ ?_ (R := R) (h0 := h0)
  · simp only [List.length_append, List.length_map, List.length_zipIdx, lt, lm, List.length_drop]; omega
  · have : (((G.take b).drop a).zipIdx.map (·.2)).Pairwise (· < ·) := by
      rw [List.zipIdx_map_snd]; exact List.pairwise_lt_range'
    rwa [List.pairwise_map] at this
  · rw [List.length_map, lt]
  · rw [List.length_map, List.length_zipIdx, lt, lm]; omega
  · unfold Rw
    rw [List.map_append, List.map_append, e0, e0, e1, List.zipIdx_map_fst, ← List.map_append, ← List.map_append, ← split3 hab G]
    exact ho
  · intro h' M' hp hs ho'
    have hp' : (M'.map (·.1)).Perm ((G.take b).drop a) := by
      have := hp.map (·.1); rwa [List.zipIdx_map_fst] at this
    refine hq h' (G.take a ++ (M'.map (·.1) ++ G.drop b)) (within_mid hab hb hp') (srt_mid hab hb (by rw [hp'.length_eq, lm]) ?_) ?_
    · rw [List.pairwise_map]
      refine hs.imp fun {x y} hxy => ?_
      have hx : lessC c y.1 x.1 = false := hxy.elim (fun h => W.asym h) fun ⟨h, _⟩ => h
      unfold lessC at hx; exact of_decide_eq_false hx
    · unfold Rw at ho' ⊢
      rw [List.map_append, List.map_append, e0, e0, e1] at ho'
      rwa [List.map_append, List.map_append]
/-- Heap sort of a range. -/
theorem heapSort_spec {f1 : Nat} (is : SiftI C E f1) (S : SeqSpec E cs v) (W : Weak (lessC c)) (hc : CmpSpec C v c f h0) (ho : Rw E cs h0 h x G R) (hl : G.length ≤ 100000000) (hab : a < b) (hb : b ≤ G.length)
    (hq : ∀ h' G', Within a b G G' → Srt c a b G' → Rw E cs h0 h' x G' R → Q (.tup []) h') : slices_heapSortCmpFuncG.cps C E f1 x (.int .i64 (a : Int)) (.int .i64 (b : Int)) f h Q := by
  have e1 := subNN (a := b) (b := a) (by omega) (by omega)
  obtain ⟨n, hn⟩ : ∃ n, n = b - a := ⟨_, rfl⟩
  have e2 : V.bin .quo (.int .i64 ((n - 1 : Nat) : Int)) (.int .i64 2) = some (.int .i64 (((n - 1) / 2 : Nat) : Int)) := by
    rw [V.bin_quo _ _ _ (by omega), show ((n - 1 : Nat) : Int).tdiv 2 = (((n - 1) / 2 : Nat) : Int) from rfl, wrap_i64 (by omega) (by omega)]
  have m1 : ∀ k : Nat, k ≤ 100000000 → V.bin .sub (.int .i64 (k : Int)) (.int .i64 1) = some (.int .i64 ((k : Int) - 1)) := fun k hk => by
    rw [V.bin_sub, wrap_i64 (by omega) (by omega)]
  have m2 : ∀ k : Nat, k ≤ 100000000 → V.bin .sub (.int .i64 ((k + 1 : Nat) - 1 : Int)) (.int .i64 1) = some (.int .i64 ((k : Int) - 1)) := fun k hk => by
    rw [V.bin_sub, wrap_i64 (by omega) (by omega)]; congr 2; omega
  simp -dsimp only [slices_heapSortCmpFuncG.cps, slices_heapSortCmpFuncG.k5, e1, B.pv_some]
  rw [← hn]
  simp -dsimp only [sub1 (show 1 ≤ n by omega) (by omega), e2, B.pv_some]
  refine LoopR.intro (fun t vs hh => ∃ (G' : List X), vs = [.int .i64 ((t : Int) - 1)] ∧ t ≤ n ∧ Heap c a n t G' ∧ Within a b G G' ∧ Rw E cs h0 hh x G' R) ((n - 1) / 2 + 1) ?_ ⟨G, by congr 2; omega, by omega, Heap.none_ (by omega), Within.refl _ _ _, ho⟩
  rintro Y t vs hh ⟨G1, rfl, htn, p1, W1, o1⟩ hY
  have l1 := W1.len
  simp -dsimp only [slices_heapSortCmpFuncG.l4, slices_heapSortCmpFuncG.k3, V.bin_geq, B.pv_some]
  cases t with
  | succ k =>
    rw [show decide ((0 : Int) ≤ ((k + 1 : Nat) : Int) - 1) = true by simp, B.cond_true, show (((k + 1 : Nat) : Int) - 1) = (k : Int) by omega]
    refine is _ _ _ _ _ _ _ (siftDown_spec (b := b) S W hc o1 (by omega) (p1.sinv (by omega)) (Nat.le_refl _) (by omega) (by omega) fun h2 G2 p2 w2 o2 => dn_same ?_)
    simp -dsimp only [m1 k (by omega), B.pv_some]
    exact hY k _ _ (by omega) ⟨G2, rfl, by omega, p2, W1.trans w2, o2⟩
  | zero =>
    rw [show decide ((0 : Int) ≤ ((0 : Nat) : Int) - 1) = false by simp, B.cond_false]
    simp -dsimp only [m1 n (by omega), B.pv_some]
    refine LoopR.intro (fun t vs hh => ∃ (G' : List X), vs = [.int .i64 ((t : Int) - 1)] ∧ t ≤ n ∧ Heap c a t 0 G' ∧ Cut c a b a (a + t) G' ∧ Within a b G G' ∧ Rw E cs h0 hh x G' R) n ?_ ⟨G1, rfl, Nat.le_refl _, p1, fun p q _ _ h3 h4 => by omega, W1, o1⟩
    rintro Z t vs hh ⟨G2, rfl, htn, p2, c2, W2, o2⟩ hZ
    have l2 := W2.len
    simp -dsimp only [slices_heapSortCmpFuncG.l2, slices_heapSortCmpFuncG.k1, V.bin_geq, B.pv_some]
    cases t with
    | zero =>
      rw [show decide ((0 : Int) ≤ ((0 : Nat) : Int) - 1) = false by simp, B.cond_false]
      exact hq hh G2 W2 (c2.small (by omega)) o2
    | succ k =>
      rw [show decide ((0 : Int) ≤ ((k + 1 : Nat) : Int) - 1) = true by simp, B.cond_true, show (((k + 1 : Nat) : Int) - 1) = (k : Int) by omega]
      have ac := addNN (a := a) (b := k) (by omega)
      have la : a < G2.length := by omega
      have lk : a + k < G2.length := by omega
      simp -dsimp only [ac, o2.idx la, o2.idx lk, B.pv_some]
      refine o2.ld S (List.getElem?_eq_getElem lk) ?_
      refine o2.ld S (List.getElem?_eq_getElem la) ?_
      refine o2.swap S la lk fun h3 o3 => ?_
      have hsl := swp_len la lk
      have w3 : Within a (a + (k + 1)) G2 (swp G2 a (a + k) la lk) := swp_within la lk (by omega) (by omega) (by omega) (by omega)
      have c3 := c2.within w3 (Nat.le_refl _) (by omega)
      have c4 : Cut c a b a (a + k) (swp G2 a (a + k) la lk) := fun p q h1 h2 h3 h4 h5 h6 => by
        by_cases e : a + (k + 1) ≤ q
        · exact c3 p q h1 h2 h3 (.inr e) h5 h6
        · have : q = a + k := by omega
          subst this
          rw [swp_at la lk h6 (by omega), if_pos rfl, swp_at la lk h5 (by omega), if_neg (by omega)]
          split
          · exact p2.root W (by omega) k (by omega)
          · have := p2.root W (by omega) (p - a) (by omega)
            simpa only [show a + (p - a) = p by omega] using this
      have s3 : SInv c a k 0 0 (swp G2 a (a + k) la lk) := ⟨by omega, fun j j0 hj _ hne h1 h2 => by
        rw [swp_at la lk h1 (by omega), if_neg (by omega), if_neg (by omega), swp_at la lk h2 (by omega), if_neg (by omega), if_neg (by omega)]
        exact p2 j j0 (by omega) (by omega) (by omega) (by omega), fun _ h => by omega⟩
      refine is _ _ _ _ _ _ _ (siftDown_spec (r := 0) (b := a + k) S W hc o3 (by omega) s3 (Nat.le_refl _) (by omega) (by omega) fun h4 G4 p4 w4 o4 => dn_same ?_)
      simp -dsimp only [m1 k (by omega), B.pv_some]
      exact hZ k _ _ (by omega) ⟨G4, rfl, by omega, p4, c4.within w4 (Nat.le_refl _) (by omega), (W2.trans (w3.mono (Nat.le_refl _) (by omega))).trans (w4.mono (Nat.le_refl _) (by omega)), o4⟩
end
end Go.Ab

/- What is proved: the library's quick sort, generic: partial insertion sort. No conditions. -/
set_option linter.unusedVariables false
set_option linter.unusedSimpArgs false
namespace Go.Ab
variable {C : CSem}
/-- None in the range is less than the one ahead of it. -/
def Pre {X : Type} (c : X → X → Int) (a b : Nat) (G : List X) : Prop := 0 < a → ∀ i, a ≤ i → i < b → ∀ (h1 : i < G.length) (h2 : a - 1 < G.length), ¬ c G[i] G[a - 1] < 0
theorem Pre.within {X : Type} {c : X → X → Int} {a b : Nat} {G G' : List X} (p : Pre c a b G) (w : Within a b G G') : Pre c a b G' := fun h0 i h1 h2 h3 h4 => by
  have hl := w.len
  obtain ⟨k, k1, k2, k3, e⟩ := w.mem h1 h2 h3
  rw [e, w.same (k := a - 1) (.inl (by omega)) h4 (by omega)]
  exact p h0 k k1 k2 _ _
/-- In order but for what stands ahead of the one at j. -/
def But1 {X : Type} (c : X → X → Int) (A B j : Nat) (G : List X) : Prop := ∀ p q, A ≤ p → p < q → q < B → q ≠ j → ∀ (h1 : p < G.length) (h2 : q < G.length), ¬ c G[q] G[p] < 0
section
variable {X : Type} {c : X → X → Int} {A B j : Nat} {G : List X}
theorem But1.done (W : Weak (lessC c)) (x : But1 c A B j G) (hj : j < G.length) (h : j ≤ A ∨ ∀ (h1 : j - 1 < G.length), ¬ c G[j] G[j - 1] < 0) : Srt c A B G := fun p q h1 h2 h3 h4 h5 => by
  by_cases e : q = j
  · subst e
    have h := h.resolve_left (by omega)
    by_cases e2 : p = q - 1
    · subst e2; exact h _
    · have k1 := x p (q - 1) h1 (by omega) (by omega) (by omega) h4 (by omega)
      have := W.ntrans (a := G[q]) (b := G[q - 1]'(by omega)) (c := G[p]) (by unfold lessC; exact decide_eq_false (h _)) (by unfold lessC; exact decide_eq_false k1)
      unfold lessC at this; exact of_decide_eq_false this
  · exact x p q h1 h2 h3 e h4 h5
theorem But1.step (W : Weak (lessC c)) (x : But1 c A B j G) (hA : A < j) (hj : j < G.length) (hj1 : j - 1 < G.length) (hlt : c G[j] G[j - 1] < 0) : But1 c A B (j - 1) (swp G j (j - 1) hj hj1) := fun p q h1 h2 h3 h4 h5 h6 => by
  have hl := swp_len hj hj1
  rw [swp_at hj hj1 h6 (by omega), if_neg h4, swp_at hj hj1 h5 (by omega)]
  by_cases e : q = j
  · rw [if_pos e]
    split
    · have := W.asym (a := G[j]) (b := G[j - 1]) (by unfold lessC; exact decide_eq_true hlt)
      unfold lessC at this; exact of_decide_eq_false this
    · rw [if_neg (by omega)]; exact x p (j - 1) h1 (by omega) (by omega) (by omega) (by omega) hj1
  · rw [if_neg e]
    split
    · exact x j q (by omega) (by omega) h3 e hj (by omega)
    · split
      · exact x (j - 1) q (by omega) (by omega) h3 e hj1 (by omega)
      · exact x p q h1 h2 h3 e (by omega) (by omega)
end
section
variable {E : ElOps} {X : Type} {cs : X → List AVal} {v : X → AVal} {h0 h : AHeap} {x f : AVal} {G : List X} {R : List (List AVal)} {c : X → X → Int} {Q : AVal → AHeap → Prop} {Y1 : List AVal → AHeap → Prop} {a b i s : Nat}
/-- The greater one goes right. -/
theorem pis_k3 (S : SeqSpec E cs v) (hc : CmpSpec C v c f h0) (ho : Rw E cs h0 h x G R) (hl : G.length ≤ 100000000) (hi0 : 0 < i) (hi : i < b) (hb : b ≤ G.length) (hs : s ≤ 5)
    (hY : ∀ h' G', Within i b G G' → Rw E cs h0 h' x G' R → Y1 [.int .i64 (i : Int), .int .i64 ((s + 1 : Nat) : Int)] h') :
    slices_partialInsertionSortCmpFuncG.k3 C E Q Y1 x (.int .i64 (a : Int)) (.int .i64 (b : Int)) f (.int .i64 (i : Int)) (.int .i64 (s : Int)) h := by
  have hge : V.bin .geq (.int .i64 ((b - i : Nat) : Int)) (.int .i64 2) = some (.bool (decide (2 ≤ b - i))) := geqN (b := 2)
  simp -dsimp only [slices_partialInsertionSortCmpFuncG.k3, subNN (show i ≤ b by omega) (by omega), hge, add1 (show s < 4611686018427387904 by omega), add1 (show i < 4611686018427387904 by omega), B.pv_some]
  refine B.cond_bool (fun hd => ?_) (fun hd => ?_)
  rotate_left
  · simp -dsimp only [add1 (show s < 4611686018427387904 by omega), B.pv_some]
    exact hY h G (Within.refl _ _ _) ho
  rw [decide_eq_true_eq] at hd
  simp -dsimp only [add1 (show i < 4611686018427387904 by omega), B.pv_some]
  refine LoopR.intro (fun t vs hh => ∃ (j : Nat) (G' : List X), j + t = b ∧ vs = [.int .i64 (j : Int)] ∧ i < j ∧ Within i b G G' ∧ Rw E cs h0 hh x G' R) (b - (i + 1)) ?_ ⟨i + 1, G, by omega, rfl, by omega, Within.refl _ _ _, ho⟩
  rintro Y t vs hh ⟨j, G1, hjt, rfl, hij, W1, o⟩ hY2
  have hlen := W1.len
  simp -dsimp only [slices_partialInsertionSortCmpFuncG.l2, slices_partialInsertionSortCmpFuncG.k1, lssN, B.pv_some]
  refine B.cond_bool (fun he => ?_) (fun he => ?_)
  · rw [decide_eq_true_eq] at he
    have lj : j < G1.length := by omega
    have lj1 : j - 1 < G1.length := by omega
    have sj := sub1 (a := j) (by omega) (by omega)
    simp -dsimp only [sj, o.idx lj, o.idx lj1, B.pv_some]
    refine o.ld S (List.getElem?_eq_getElem lj) ?_
    refine o.ld S (List.getElem?_eq_getElem lj1) ?_
    refine hc.call _ _ _ _ o.le ?_
    simp -dsimp only [V.bin_lss, V.un_not, B.pv_some]
    refine B.cond_bool (fun hd => ?_) (fun hd => ?_)
    · simp -dsimp only [add1 (show s < 4611686018427387904 by omega), B.pv_some]
      exact hY hh G1 W1 o
    · simp -dsimp only [sj, o.idx lj, o.idx lj1, B.pv_some]
      refine o.ld S (List.getElem?_eq_getElem lj1) ?_
      refine o.ld S (List.getElem?_eq_getElem lj) ?_
      refine o.swap S lj lj1 fun h2 o2 => ?_
      simp -dsimp only [add1 (show j < 4611686018427387904 by omega), B.pv_some]
      exact hY2 (b - (j + 1)) _ _ (by omega) ⟨j + 1, _, by omega, rfl, by omega, W1.trans (swp_within lj lj1 (by omega) (by omega) (by omega) (by omega)), o2⟩
  · simp -dsimp only [add1 (show s < 4611686018427387904 by omega), B.pv_some]
    exact hY hh G1 W1 o
/-- The lesser one goes left. -/
theorem pis_k6 (S : SeqSpec E cs v) (W : Weak (lessC c)) (hc : CmpSpec C v c f h0) (ho : Rw E cs h0 h x G R) (hl : G.length ≤ 100000000) (hai : a < i) (hi : i < b) (hb : b ≤ G.length) (hs : s ≤ 5) (hp : Pre c a b G) (h1 : But1 c a i (i - 1) G)
    (hY : ∀ h' G', Within a b G G' → Srt c a i G' → Rw E cs h0 h' x G' R → Y1 [.int .i64 (i : Int), .int .i64 ((s + 1 : Nat) : Int)] h') :
    slices_partialInsertionSortCmpFuncG.k6 C E Q Y1 x (.int .i64 (a : Int)) (.int .i64 (b : Int)) f (.int .i64 (i : Int)) (.int .i64 (s : Int)) h := by
  have fin : ∀ {hh G1}, Rw E cs h0 hh x G1 R → Within a b G G1 → Srt c a i G1 → slices_partialInsertionSortCmpFuncG.k3 C E Q Y1 x (.int .i64 (a : Int)) (.int .i64 (b : Int)) f (.int .i64 (i : Int)) (.int .i64 (s : Int)) hh := fun {hh G1} o W1 s1 => by
    have l1 := W1.len
    refine pis_k3 S hc o (by omega) (by omega) hi (by omega) hs fun h2 G2 W2 o2 => hY h2 G2 (W1.trans (W2.mono (by omega) (Nat.le_refl _))) (fun p q h1 h2 h3 h4 h5 => ?_) o2
    have l2 := W2.len
    rw [W2.same (k := p) (.inl (by omega)) h4 (by omega), W2.same (k := q) (.inl (by omega)) h5 (by omega)]
    exact s1 p q h1 h2 h3 _ _
  have hge : V.bin .geq (.int .i64 ((i - a : Nat) : Int)) (.int .i64 2) = some (.bool (decide (2 ≤ i - a))) := geqN (b := 2)
  simp -dsimp only [slices_partialInsertionSortCmpFuncG.k6, subNN (show a ≤ i by omega) (by omega), hge, sub1 (show 1 ≤ i by omega) (by omega), B.pv_some]
  refine B.cond_bool (fun hd => ?_) (fun hd => ?_)
  · simp -dsimp only [sub1 (show 1 ≤ i by omega) (show i < 4611686018427387904 by omega), B.pv_some]
    refine LoopR.intro (fun t vs hh => ∃ (G' : List X), vs = [.int .i64 (t : Int)] ∧ a ≤ t ∧ t < i ∧ But1 c a i t G' ∧ Within a b G G' ∧ Rw E cs h0 hh x G' R) (i - 1) ?_ ⟨G, rfl, by omega, by omega, h1, Within.refl _ _ _, ho⟩
    rintro Y j vs hh ⟨G1, rfl, haj, hji, b1, W1, o⟩ hY2
    have hlen := W1.len
    have lj : j < G1.length := by omega
    have hg1 : V.bin .geq (.int .i64 (j : Int)) (.int .i64 1) = some (.bool (decide (1 ≤ j))) := geqN (b := 1)
    simp -dsimp only [slices_partialInsertionSortCmpFuncG.l5, slices_partialInsertionSortCmpFuncG.k4, hg1, B.pv_some]
    refine B.cond_bool (fun he => ?_) (fun he => ?_)
    · rw [decide_eq_true_eq] at he
      have lj1 : j - 1 < G1.length := by omega
      have sj := sub1 (a := j) (by omega) (by omega)
      simp -dsimp only [sj, o.idx lj, o.idx lj1, B.pv_some]
      refine o.ld S (List.getElem?_eq_getElem lj) ?_
      refine o.ld S (List.getElem?_eq_getElem lj1) ?_
      refine hc.call _ _ _ _ o.le ?_
      simp -dsimp only [V.bin_lss, V.un_not, B.pv_some]
      refine B.cond_bool (fun hd => ?_) (fun hd => ?_)
      · exact fin o W1 (b1.done W lj (.inr fun _ => by simpa using hd))
      · have hlt : c G1[j] G1[j - 1] < 0 := by simpa using hd
        have haj2 : a < j := by
          rcases Nat.lt_or_ge a j with k | k
          · exact k
          · have : j = a := by omega
            subst this
            exact absurd hlt ((hp.within W1) (by omega) j (Nat.le_refl _) (by omega) _ _)
        simp -dsimp only [sj, o.idx lj, o.idx lj1, B.pv_some]
        refine o.ld S (List.getElem?_eq_getElem lj1) ?_
        refine o.ld S (List.getElem?_eq_getElem lj) ?_
        refine o.swap S lj lj1 fun h2 o2 => ?_
        exact hY2 (j - 1) _ _ (by omega) ⟨_, rfl, by omega, by omega, b1.step W haj2 lj lj1 hlt, W1.trans (swp_within lj lj1 (by omega) (by omega) (by omega) (by omega)), o2⟩
    · rw [decide_eq_false_iff_not] at he
      exact fin o W1 (b1.done W lj (.inl (by omega)))
  · rw [decide_eq_false_iff_not] at hd
    exact fin ho (Within.refl _ _ _) fun p q _ _ _ _ _ => by omega
/-- Some shifts: true if the range is in order then. -/
theorem partialInsertionSort_spec (S : SeqSpec E cs v) (W : Weak (lessC c)) (hc : CmpSpec C v c f h0) (ho : Rw E cs h0 h x G R) (hl : G.length ≤ 100000000) (hab : a < b) (hb : b ≤ G.length) (hp : Pre c a b G)
    (hq : ∀ h' G' t, Within a b G G' → (t = true → Srt c a b G') → Rw E cs h0 h' x G' R → Q (.bool t) h') :
    slices_partialInsertionSortCmpFuncG.cps C E x (.int .i64 (a : Int)) (.int .i64 (b : Int)) f h Q := by
  simp -dsimp only [slices_partialInsertionSortCmpFuncG.cps, add1 (show a < 4611686018427387904 by omega), B.pv_some]
  refine LoopR.intro (fun t vs hh => ∃ (s i : Nat) (G' : List X), s + t = 5 ∧ vs = [.int .i64 (i : Int), .int .i64 (s : Int)] ∧ a < i ∧ i ≤ b ∧ Srt c a i G' ∧ Within a b G G' ∧ Rw E cs h0 hh x G' R) 5 ?_ ⟨0, a + 1, G, rfl, rfl, by omega, by omega, fun p q _ _ _ _ _ => by omega, Within.refl _ _ _, ho⟩
  rintro Y t vs hh ⟨s, i, G1, hst, rfl, hai, hib, s1, W1, o⟩ hY
  have hl1 := W1.len
  have h5 : V.bin .lss (.int .i64 (s : Int)) (.int .i64 5) = some (.bool (decide (s < 5))) := lssN (b := 5)
  simp -dsimp only [slices_partialInsertionSortCmpFuncG.l12, slices_partialInsertionSortCmpFuncG.k11, h5, B.pv_some]
  refine B.cond_bool (fun hd => ?_) (fun hd => hq hh G1 false W1 (fun h => by cases h) o)
  rw [decide_eq_true_eq] at hd
  refine LoopR.intro (fun t vs hh => ∃ (i : Nat), i + t = b ∧ vs = [.int .i64 (i : Int)] ∧ a < i ∧ Srt c a i G1 ∧ Rw E cs h0 hh x G1 R) (b - i) ?_ ⟨i, by omega, rfl, hai, s1, o⟩
  rintro Z t vs hh ⟨i, hit, rfl, hai, s2, o2⟩ hZ
  simp -dsimp only [slices_partialInsertionSortCmpFuncG.l10, slices_partialInsertionSortCmpFuncG.k9, lssN, B.pv_some]
  by_cases hd2 : i < b
  · have li : i < G1.length := by omega
    have li1 : i - 1 < G1.length := by omega
    have si := sub1 (a := i) (by omega) (by omega)
    simp -dsimp only [hd2, decide_true, B.gd_t, B.gdb_true, si, o2.idx li, o2.idx li1, B.pv_some]
    refine o2.ld S (List.getElem?_eq_getElem li) ?_
    refine o2.ld S (List.getElem?_eq_getElem li1) ?_
    refine hc.call _ _ _ _ o2.le ?_
    simp -dsimp only [hd2, decide_true, B.gd_t, B.gdb_true, V.bin_lss, V.un_not, B.pick_t, B.pv_some]
    refine B.cond_bool (fun he => ?_) (fun he => ?_)
    · have hnl : ¬ c G1[i] G1[i - 1] < 0 := by simpa using he
      simp -dsimp only [add1 (show i < 4611686018427387904 by omega), B.pv_some]
      refine hZ (t - 1) _ _ (by omega) ⟨i + 1, by omega, rfl, by omega, ?_, o2⟩
      exact But1.done W (j := i) (fun p q h1 h2 h3 h4 h5 h6 => s2 p q h1 h2 (by omega) h5 h6) li (.inr fun _ => hnl)
    · have hlt : c G1[i] G1[i - 1] < 0 := by simpa using he
      have hne : V.bin .eql (.int .i64 (i : Int)) (.int .i64 (b : Int)) = some (.bool false) := by rw [V.bin_eql]; simp; omega
      simp -dsimp only [hne, B.pv_some, B.cond_false, slices_partialInsertionSortCmpFuncG.k8, slices_partialInsertionSortCmpFuncG.k7, subNN (show a ≤ b by omega) (show b < 4611686018427387904 by omega)]
      rw [show V.bin .lss (.int .i64 ((b - a : Nat) : Int)) (.int .i64 50) = some (.bool (decide (b - a < 50))) from lssN (b := 50)]
      simp -dsimp only [B.pv_some]
      refine B.cond_bool (fun hf => hq hh G1 false W1 (fun h => by cases h) o2) (fun hf => ?_)
      simp -dsimp only [slices_partialInsertionSortCmpFuncG.k7, si, o2.idx li, o2.idx li1, B.pv_some]
      refine o2.ld S (List.getElem?_eq_getElem li1) ?_
      refine o2.ld S (List.getElem?_eq_getElem li) ?_
      refine o2.swap S li li1 fun h3 o3 => ?_
      have hsl := swp_len li li1
      have w3 : Within a b G1 (swp G1 i (i - 1) li li1) := swp_within li li1 (by omega) (by omega) (by omega) (by omega)
      have W3 := W1.trans w3
      refine pis_k6 S W hc o3 (by omega) hai hd2 (by omega) (by omega) (hp.within W3) (fun p q h1 h2 h3 h4 h5 h6 => ?_) fun h4 G4 W4 s4 o4 => hY (5 - (s + 1)) _ _ (by omega) ⟨s + 1, i, G4, by omega, rfl, hai, by omega, s4, W3.trans W4, o4⟩
      rw [swp_at li li1 h6 (by omega), if_neg h4, if_neg (by omega), swp_at li li1 h5 (by omega), if_neg (by omega), if_neg (by omega)]
      exact s2 p q h1 h2 h3 _ _
  · have e : i = b := by omega
    subst e
    have heq : V.bin .eql (.int .i64 (i : Int)) (.int .i64 (i : Int)) = some (.bool true) := by rw [V.bin_eql]; simp
    simp -dsimp only [hd2, decide_false, B.gd_t, B.gdb_false, B.pick_f, B.cond_false, heq, B.cond_true, B.pv_some]
    exact hq hh G1 true W1 (fun _ => s2) o2
end
end Go.Ab

/- What is proved: contracts of answers' bytes, the program's and the document's. No conditions. -/
set_option linter.unusedVariables false
set_option linter.unusedSimpArgs false
namespace Go.Ab
variable {C : CSem} {N : Nat → Nat}

end Go.Ab

/- What is proved: contracts of what reads answers' bytes, the program's and the document's. No conditions. -/
set_option linter.unusedVariables false
set_option linter.unusedSimpArgs false
namespace Go.Ab
variable {C : CSem} {N : Nat → Nat}

theorem bin_shl {k j : IntKind} {a b : Int} (h0 : 0 ≤ b) (h1 : b < k.bits) : V.bin .shl (.int k a) (.int j b) = some (.int k (k.wrap (a * 2 ^ b.toNat))) := by
  simp only [V.bin, V.shift]
  rw [if_neg (by omega), Nat.min_eq_left (by omega)]
end Go.Ab

/- What is proved: the library's quick sort, generic: numbers of bits; some places are exchanged at random. No conditions. -/
set_option linter.unusedVariables false
set_option linter.unusedSimpArgs false
namespace Go.Ab
variable {C : CSem} {N : Nat → Nat}
theorem V.bin_xor (k : IntKind) (a b : Int) : V.bin .xor (.int k a) (.int k b) = some (.int k (k.wrap (BitVec.ofInt k.bits a ^^^ BitVec.ofInt k.bits b).toNat)) := by simp [V.bin, V.arith]
theorem V.bin_and (k : IntKind) (a b : Int) : V.bin .and (.int k a) (.int k b) = some (.int k (k.wrap (BitVec.ofInt k.bits a &&& BitVec.ofInt k.bits b).toNat)) := by simp [V.bin, V.arith]
theorem wrapU {n : Nat} (h : n < 18446744073709551616) : IntKind.u64.wrap (n : Int) = n := by rw [wrap_u64]; omega
theorem toUN {n : Nat} (h : n < 18446744073709551616) : V.toInt .u64 (.int .i64 (n : Int)) = some (.int .u64 (n : Int)) := by rw [V.toInt_int, wrapU h]
theorem toIN {k : IntKind} {n : Nat} (h : n < 4611686018427387904) : V.toInt .i64 (.int k (n : Int)) = some (.int .i64 (n : Int)) := by rw [V.toInt_int, wrap_i64 (by omega) (by omega)]
theorem and_le {z : Int} {m : Nat} (h : m < 4611686018427387904) : ∃ o : Nat, o ≤ m ∧ V.bin .and (.int .u64 z) (.int .u64 (m : Int)) = some (.int .u64 (o : Int)) := by
  refine ⟨(BitVec.ofInt 64 z &&& BitVec.ofInt 64 (m : Int)).toNat, ?_, ?_⟩
  · rw [BitVec.toNat_and]
    refine Nat.le_trans Nat.and_le_right ?_
    rw [BitVec.toNat_ofInt]; omega
  · rw [V.bin_and]
    show some (AVal.int .u64 (IntKind.u64.wrap ((BitVec.ofInt 64 z &&& BitVec.ofInt 64 (m : Int)).toNat : Int))) = _
    rw [wrapU (BitVec.isLt _)]
def lenT : List UInt8 := [0, 1, 2, 2, 3, 3, 3, 3, 4, 4, 4, 4, 4, 4, 4, 4, 5, 5, 5, 5, 5, 5, 5, 5, 5, 5, 5, 5, 5, 5, 5, 5, 6, 6, 6, 6, 6, 6, 6, 6, 6, 6, 6, 6, 6, 6, 6, 6, 6, 6, 6, 6, 6, 6, 6, 6, 6, 6, 6, 6, 6, 6, 6, 6, 7, 7, 7, 7, 7, 7, 7, 7, 7, 7, 7, 7, 7, 7, 7, 7, 7, 7, 7, 7, 7, 7, 7, 7, 7, 7, 7, 7, 7, 7, 7, 7, 7, 7, 7, 7, 7, 7, 7, 7, 7, 7, 7, 7, 7, 7, 7, 7, 7, 7, 7, 7, 7, 7, 7, 7, 7, 7, 7, 7, 7, 7, 7, 7, 8, 8, 8, 8, 8, 8, 8, 8, 8, 8, 8, 8, 8, 8, 8, 8, 8, 8, 8, 8, 8, 8, 8, 8, 8, 8, 8, 8, 8, 8, 8, 8, 8, 8, 8, 8, 8, 8, 8, 8, 8, 8, 8, 8, 8, 8, 8, 8, 8, 8, 8, 8, 8, 8, 8, 8, 8, 8, 8, 8, 8, 8, 8, 8, 8, 8, 8, 8, 8, 8, 8, 8, 8, 8, 8, 8, 8, 8, 8, 8, 8, 8, 8, 8, 8, 8, 8, 8, 8, 8, 8, 8, 8, 8, 8, 8, 8, 8, 8, 8, 8, 8, 8, 8, 8, 8, 8, 8, 8, 8, 8, 8, 8, 8, 8, 8, 8, 8, 8, 8, 8, 8, 8, 8, 8, 8, 8, 8]
theorem idxStr_u8 {s : List UInt8} {k : Nat} {b : UInt8} (hb : s[k]? = some b) : V.idxStr (.str s) (.int .u8 (k : Int)) = some (.int .u8 b.toNat) := by
  simp [V.idxStr, hb]
theorem lenT_all : ∀ k : Fin 256, ∃ b : Fin 9, lenT[k.val]? = some (UInt8.ofNat b.val) ∧ (0 < k.val → 2 ^ b.val ≤ 2 * k.val) := by decide +kernel
theorem lenTab {k : Nat} (h : k < 256) : ∃ b : Nat, V.idxStr (.str lenT) (.int .u8 (k : Int)) = some (.int .u8 (b : Int)) ∧ b ≤ 8 ∧ (0 < k → 2 ^ b ≤ 2 * k) := by
  obtain ⟨b, e, hb⟩ := lenT_all ⟨k, h⟩
  have hb9 := b.isLt
  refine ⟨b.val, ?_, by omega, hb⟩
  rw [idxStr_u8 e]
  congr 2
  rw [UInt8.toNat_ofNat', Nat.mod_eq_of_lt (by omega)]
theorem Len64_k1 {Q : AVal → AHeap → Prop} {v0 v2 : AVal} {h : AHeap} : math_bits_Len64.k1 C N Q v0 v2 h = (B.pv (V.toInt .u8 v0) fun v21 =>
    B.pv (V.idxStr (.str lenT) v21) fun v22 =>
    B.pv (V.toInt .i64 v22) fun v23 =>
    B.pv (V.bin .add v2 v23) fun v24 =>
    Q v24 h) := rfl
theorem Len64_spec {x : Nat} (hx : x ≤ 100000000) {h : AHeap} {Q : AVal → AHeap → Prop} (hq : ∀ r : Nat, r ≤ 32 → (0 < x → 2 ^ r ≤ 2 * x) → Q (.int .i64 (r : Int)) h) : math_bits_Len64.cps C N (.int .u64 (x : Int)) h Q := by
  have fin : ∀ (y s : Nat), y < 256 → s ≤ 24 → (0 < x → 0 < y) → 2 ^ s * y ≤ x → math_bits_Len64.k1 C N Q (.int .u64 (y : Int)) (.int .i64 (s : Int)) h := fun y s hy hs h0 hle => by
    obtain ⟨b, e, hb, hp⟩ := lenTab hy
    have e1 : V.toInt .u8 (.int .u64 (y : Int)) = some (.int .u8 (y : Int)) := by rw [V.toInt_int, wrap_u8]; congr 2; omega
    rw [Len64_k1]
    simp -dsimp only [e1, B.pv_some, e, toIN (show b < 4611686018427387904 by omega), addNN (show s + b < 4611686018427387904 by omega)]
    refine hq (s + b) (by omega) fun hx0 => ?_
    have h1 := hp (h0 hx0)
    have h2 : 2 ^ s * 2 ^ b ≤ 2 ^ s * (2 * y) := Nat.mul_le_mul_left _ h1
    rw [Nat.pow_add]
    have h3 : 2 ^ s * (2 * y) = 2 * (2 ^ s * y) := by rw [Nat.mul_left_comm]
    omega
  have sh : ∀ (y j : Nat), j < 64 → V.bin .shr (.int .u64 (y : Int)) (.int .u64 (j : Int)) = some (.int .u64 ((y / 2 ^ j : Nat) : Int)) := fun y j hj => by
    rw [bin_shr (by omega) (by simp [IntKind.bits]; omega), Int.toNat_natCast]
    congr 2
    rw [Int.fdiv_eq_ediv_of_nonneg _ (by exact_mod_cast Nat.zero_le (2 ^ j))]
    simp
  have g3 : V.bin .geq (.int .u64 (x : Int)) (.int .u64 4294967296) = some (.bool false) := by rw [V.bin_geq]; simp; omega
  have gk : ∀ y m : Nat, V.bin .geq (.int .u64 (y : Int)) (.int .u64 (m : Int)) = some (.bool (decide (m ≤ y))) := fun y m => by rw [V.bin_geq]; congr 3; exact propext (by omega)
  have low : ∀ (y s : Nat), y < 65536 → s ≤ 16 → (0 < x → 0 < y) → 2 ^ s * y ≤ x → math_bits_Len64.k2 C N Q (.int .u64 (y : Int)) (.int .i64 (s : Int)) h := fun y s hy hs h0 hle => by
    have g1 : V.bin .geq (.int .u64 (y : Int)) (.int .u64 256) = some (.bool (decide (256 ≤ y))) := gk y 256
    have s1 : V.bin .shr (.int .u64 (y : Int)) (.int .u64 8) = some (.int .u64 ((y / 2 ^ 8 : Nat) : Int)) := sh y 8 (by omega)
    have a1 : V.bin .add (.int .i64 (s : Int)) (.int .i64 8) = some (.int .i64 ((s + 8 : Nat) : Int)) := addNN (a := s) (b := 8) (by omega)
    simp -dsimp only [math_bits_Len64.k2, g1, B.pv_some]
    refine B.cond_bool (fun hd => ?_) (fun hd => ?_)
    · rw [decide_eq_true_eq] at hd
      simp -dsimp only [s1, a1, B.pv_some]
      refine fin (y / 2 ^ 8) (s + 8) (by omega) (by omega) (fun _ => by omega) ?_
      rw [Nat.pow_add, Nat.mul_assoc]
      refine Nat.le_trans (Nat.mul_le_mul_left _ ?_) hle
      omega
    · rw [decide_eq_false_iff_not] at hd
      exact fin y s (by omega) (by omega) h0 hle
  have g2 : V.bin .geq (.int .u64 (x : Int)) (.int .u64 65536) = some (.bool (decide (65536 ≤ x))) := gk x 65536
  have s2 : V.bin .shr (.int .u64 (x : Int)) (.int .u64 16) = some (.int .u64 ((x / 2 ^ 16 : Nat) : Int)) := sh x 16 (by omega)
  simp -dsimp only [math_bits_Len64.cps, math_bits_Len64.k4, math_bits_Len64.k3, g3, g2, s2, B.pv_some, B.cond_false]
  refine B.cond_bool (fun hd => ?_) (fun hd => ?_)
  · rw [decide_eq_true_eq] at hd
    simp -dsimp only [s2, show V.bin .add (.int .i64 0) (.int .i64 16) = some (.int .i64 ((16 : Nat) : Int)) from rfl, B.pv_some]
    exact low (x / 2 ^ 16) 16 (by omega) (by omega) (fun _ => by omega) (by omega)
  · rw [decide_eq_false_iff_not] at hd
    exact low x 0 (by omega) (by omega) id (by simp)
theorem Len_spec (i : math_bits_Len64.Imp C N) {x : Nat} (hx : x ≤ 100000000) {h : AHeap} {Q : AVal → AHeap → Prop} (hq : ∀ r : Nat, r ≤ 32 → (0 < x → 2 ^ r ≤ 2 * x) → Q (.int .i64 (r : Int)) h) : math_bits_Len.cps C N (.int .u64 (x : Int)) h Q := by
  simp -dsimp only [math_bits_Len.cps, math_bits_Len.k1, B.cond_false]
  exact i _ _ _ (Len64_spec hx fun r h1 h2 => dn_same (hq r h1 h2))
/-- What is asked of bits.Len. -/
def LenI (C : CSem) (f : Nat) : Prop := ∀ (x : Nat) (h : AHeap) (Q : AVal → AHeap → Prop), x ≤ 100000000 → (∀ r : Nat, r ≤ 32 → (0 < x → 2 ^ r ≤ 2 * x) → Q (.int .i64 (r : Int)) h) → C f [.int .u64 (x : Int)] h Q
theorem math_bits_Len.spec (i : math_bits_Len.Imp C N) (i2 : math_bits_Len64.Imp C N) : LenI C (N 287) := fun x h Q hx hq => i _ _ _ (Len_spec i2 hx fun r h1 h2 => dn_same (hq r h1 h2))
/-- What is asked of nextPowerOfTwo. -/
def PowI (C : CSem) (f : Nat) : Prop := ∀ (n : Nat) (h : AHeap) (Q : AVal → AHeap → Prop), 0 < n → n ≤ 100000000 → (∀ m : Nat, 0 < m → m ≤ 2 * n → Q (.int .u64 (m : Int)) h) → C f [.int .i64 (n : Int)] h Q
theorem slices_nextPowerOfTwo.spec (i : slices_nextPowerOfTwo.Imp C N) (hl : LenI C (N 287)) : PowI C (N 299) := fun n h Q h0 hn hq => by
  apply i
  simp -dsimp only [slices_nextPowerOfTwo.cps, toUN (show n < 18446744073709551616 by omega), B.pv_some]
  refine hl n h _ hn fun r hr hp => ?_
  have e : V.bin .shl (.int .u64 1) (.int .i64 (r : Int)) = some (.int .u64 ((2 ^ r : Nat) : Int)) := by
    rw [bin_shl (by omega) (by simp [IntKind.bits]; omega), Int.toNat_natCast]
    have : (1 : Int) * 2 ^ r = ((2 ^ r : Nat) : Int) := by simp
    rw [this, wrapU]
    have := hp h0
    omega
  simp -dsimp only [e, B.pv_some]
  exact dn_same (hq (2 ^ r) (Nat.pos_of_ne_zero (by simp)) (hp h0))
/-- What is asked of xorshift.Next. -/
def NextI (C : CSem) (f : Nat) : Prop := ∀ (h0 h : AHeap) (p : AVal) (n : Int) (Q : AVal → AHeap → Prop), Owns h0 h [.box p [.int .u64 n]] → (∀ m m' h', Owns h0 h' [.box p [.int .u64 m']] → Q (.int .u64 m) h') → C f [p] h Q
theorem slices_xorshift_Next.spec (i : slices_xorshift_Next.Imp C N) : NextI C (N 298) := fun h0 h p n Q ho hq => by
  have key : ∀ {h : AHeap} {n : Int}, Owns h0 h [.box p [.int .u64 n]] → ∃ id, p = .ptr id 0 0 ∧ A.ldv h (.ptr id 0 0) = some (.int .u64 n) := fun {h n} ho => by
    obtain ⟨id, rfl, hb⟩ := ho.boxAt 0 rfl
    exact ⟨id, rfl, by rw [ldv_at hb]; rfl⟩
  apply i
  obtain ⟨id, rfl, ld⟩ := key ho
  simp -dsimp only [slices_xorshift_Next.cps, slices_xorshift_Next.k1, B.nilCheck_ptr, B.ld_eq, ld, B.pv_some, bin_shl (k := .u64) (j := .u64) (b := 13) (by omega) (by simp [IntKind.bits]), V.bin_xor]
  refine ho.boxSt 0 (off := 0) rfl rfl (by simp) fun h1 o1 _ => ?_
  simp only [List.set_cons_zero] at o1
  obtain ⟨id1, e, ld1⟩ := key o1
  cases e
  simp -dsimp only [B.nilCheck_ptr, B.ld_eq, ld1, B.pv_some, bin_shr (k := .u64) (j := .u64) (b := 7) (by omega) (by simp [IntKind.bits]), V.bin_xor]
  refine o1.boxSt 0 (off := 0) rfl rfl (by simp) fun h2 o2 _ => ?_
  simp only [List.set_cons_zero] at o2
  obtain ⟨id2, e, ld2⟩ := key o2
  cases e
  simp -dsimp only [B.nilCheck_ptr, B.ld_eq, ld2, B.pv_some, bin_shl (k := .u64) (j := .u64) (b := 17) (by omega) (by simp [IntKind.bits]), V.bin_xor]
  refine o2.boxSt 0 (off := 0) rfl rfl (by simp) fun h3 o3 _ => ?_
  simp only [List.set_cons_zero] at o3
  obtain ⟨id3, e, ld3⟩ := key o3
  cases e
  simp -dsimp only [B.nilCheck_ptr, B.ld_eq, ld3, B.pv_some]
  exact dn_same (hq _ _ _ o3)
section
variable {E : ElOps} {X : Type} {cs : X → List AVal} {v : X → AVal} {h0 h : AHeap} {x f : AVal} {G : List X} {R : List (List AVal)} {Q : AVal → AHeap → Prop} {a b : Nat}
/-- Some are exchanged at random. -/
theorem breakPatterns_spec {f1 f2 : Nat} (hn : NextI C f1) (hp : PowI C f2) (S : SeqSpec E cs v) (ho : Rw E cs h0 h x G R) (hl : G.length ≤ 100000000) (hab : a ≤ b) (hb : b ≤ G.length)
    (hq : ∀ h' G', Within a b G G' → Rw E cs h0 h' x G' R → Q (.tup []) h') : slices_breakPatternsCmpFuncG.cps C E f1 f2 x (.int .i64 (a : Int)) (.int .i64 (b : Int)) f h Q := by
  obtain ⟨n, en⟩ : ∃ n, n = b - a := ⟨_, rfl⟩
  have e1 := subNN hab (show b < 4611686018427387904 by omega)
  rw [← en] at e1
  have g8 : V.bin .geq (.int .i64 (n : Int)) (.int .i64 8) = some (.bool (decide (8 ≤ n))) := geqN (b := 8)
  simp -dsimp only [slices_breakPatternsCmpFuncG.cps, slices_breakPatternsCmpFuncG.k8, e1, g8, B.pv_some]
  refine B.cond_bool (fun hd => ?_) (fun hd => hq h G (Within.refl _ _ _) ho)
  rw [decide_eq_true_eq] at hd
  simp -dsimp only [slices_breakPatternsCmpFuncG.k7, toUN (show n < 18446744073709551616 by omega), B.pv_some]
  intro id hid
  have o := Owns.newBox ho hid [.int .u64 0]
  simp only [List.cons_append, List.nil_append] at o
  refine o.boxSt 1 (off := 0) rfl rfl (by simp) fun h1 o1 _ => ?_
  simp only [List.set_cons_succ, List.set_cons_zero] at o1
  refine hp n _ _ (by omega) (by omega) fun m hm0 hm => ?_
  have m4 : V.bin .quo (.int .i64 (n : Int)) (.int .i64 4) = some (.int .i64 ((n / 4 : Nat) : Int)) := quo4 (by omega)
  have m2 : V.bin .mul (.int .i64 ((n / 4 : Nat) : Int)) (.int .i64 2) = some (.int .i64 ((n / 4 * 2 : Nat) : Int)) := mulN (a := n / 4) (b := 2) (by omega)
  have m5 : V.bin .add (.int .i64 (a : Int)) (.int .i64 ((n / 4 * 2 : Nat) : Int)) = some (.int .i64 ((a + n / 4 * 2 : Nat) : Int)) := addNN (by omega)
  simp -dsimp only [slices_breakPatternsCmpFuncG.k6, m4, m2, m5, sub1 (show 1 ≤ a + n / 4 * 2 by omega) (by omega), B.pv_some]
  refine LoopR.intro (fun t vs hh => ∃ (i : Nat) (G' : List X) (z : Int), i + t = a + n / 4 * 2 + 2 ∧ vs = [.int .i64 (i : Int)] ∧ a ≤ i ∧ Within a b G G' ∧ Owns h0 hh [.sl E.es x (G'.map cs) R, .box (.ptr id 0 0) [.int .u64 z]]) 3 ?_ ⟨a + n / 4 * 2 - 1, G, _, by omega, rfl, by omega, Within.refl _ _ _, o1⟩
  rintro Y t vs hh ⟨i, G1, z, hit, rfl, hai, W1, o2⟩ hY
  have l1 := W1.len
  simp -dsimp only [slices_breakPatternsCmpFuncG.l5, slices_breakPatternsCmpFuncG.k4, m4, m2, m5, add1 (show a + n / 4 * 2 < 4611686018427387904 by omega), leqN, B.pv_some]
  refine B.cond_bool (fun he => ?_) (fun he => hq hh G1 W1 (o2.sub (by simp)))
  rw [decide_eq_true_eq] at he
  have oo := Owns.out (l1 := [.sl E.es x (G1.map cs) R]) (l2 := [.box (.ptr id 0 0) [.int .u64 z]]) o2
  simp -dsimp only [slices_breakPatternsCmpFuncG.k3]
  refine hn _ _ _ _ _ oo.2 fun w z' h3 o3 => ?_
  have o4 := oo.1.join o3
  have s1 : V.bin .sub (.int .u64 (m : Int)) (.int .u64 1) = some (.int .u64 ((m - 1 : Nat) : Int)) := by
    rw [V.bin_sub, show (m : Int) - 1 = ((m - 1 : Nat) : Int) by omega, wrapU (by omega)]
  obtain ⟨ot, hot, ea⟩ := and_le (z := w) (m := m - 1) (by omega)
  simp -dsimp only [s1, ea, toIN (show ot < 4611686018427387904 by omega), B.pv_some, slices_breakPatternsCmpFuncG.k2, geqN]
  have fin : ∀ k : Nat, k < n → slices_breakPatternsCmpFuncG.k1 C E f1 f2 Q Y x (.int .i64 (a : Int)) (.int .i64 (n : Int)) (.ptr id 0 0) (.int .u64 (m : Int)) (.int .i64 (i : Int)) (.int .i64 (k : Int)) h3 := fun k hk => by
    have la : a + k < G1.length := by omega
    have li : i < G1.length := by omega
    have op := Owns.perm o4 (List.Perm.swap _ _ [])
    have oq := Owns.out (l1 := [.box (.ptr id 0 0) [.int .u64 z']]) (l2 := [.sl E.es x (G1.map cs) R]) op
    have orw : Rw E cs _ h3 x G1 R := oq.2
    simp -dsimp only [slices_breakPatternsCmpFuncG.k1, addNN (show a + k < 4611686018427387904 by omega), orw.idx la, orw.idx li, B.pv_some]
    refine orw.ld S (List.getElem?_eq_getElem la) ?_
    refine orw.ld S (List.getElem?_eq_getElem li) ?_
    refine orw.swap S li la fun h5 o5 => ?_
    simp -dsimp only [add1 (show i < 4611686018427387904 by omega), B.pv_some]
    have o6 := oq.1.join o5
    exact hY (a + n / 4 * 2 + 2 - (i + 1)) _ _ (by omega) ⟨i + 1, _, z', by omega, rfl, by omega, W1.trans (swp_within li la (by omega) (by omega) (by omega) (by omega)), o6.perm (List.Perm.swap _ _ [])⟩
  refine B.cond_bool (fun hf => ?_) (fun hf => ?_)
  · rw [decide_eq_true_eq] at hf
    simp -dsimp only [subNN hf (show ot < 4611686018427387904 by omega), B.pv_some]
    exact fin (ot - n) (by omega)
  · rw [decide_eq_false_iff_not] at hf
    exact fin ot (by omega)
end
end Go.Ab

/- What is proved: the library's quick sort, generic: a range is put in order. No conditions. -/
set_option linter.unusedVariables false
set_option linter.unusedSimpArgs false
namespace Go.Ab
variable {C : CSem}
section
variable {X : Type} {c : X → X → Int} {a b m A0 Z0 : Nat} {G G' : List X}
theorem le_of (W : Weak (lessC c)) {x y z : X} (h1 : ¬ c x y < 0) (h2 : ¬ c y z < 0) : ¬ c x z < 0 := by
  have := W.ntrans (a := x) (b := y) (c := z) (by unfold lessC; exact decide_eq_false h1) (by unfold lessC; exact decide_eq_false h2)
  unfold lessC at this; exact of_decide_eq_false this
theorem nlt_of (W : Weak (lessC c)) {x y : X} (h : c x y < 0) : ¬ c y x < 0 := by
  have := W.asym (a := x) (b := y) (by unfold lessC; exact decide_eq_true h)
  unfold lessC at this; exact of_decide_eq_false this
theorem le_self (W : Weak (lessC c)) (x : X) : ¬ c x x < 0 := by
  have := W.irr x; unfold lessC at this; exact of_decide_eq_false this
theorem Parted.pair (W : Weak (lessC c)) (x : Parted c a b m G) {p q : Nat} (h1 : a ≤ p) (h2 : p < q) (h3 : q < b) (h4 : p ≤ m) (h5 : m ≤ q) (hp : p < G.length) (hq : q < G.length) : ¬ c G[q] G[p] < 0 := by
  have hm : m < G.length := by omega
  have e1 : p < m → ¬ c G[m] G[p] < 0 := fun k => nlt_of W (x.lo p hp hm h1 k)
  have e2 : m < q → ¬ c G[q] G[m] < 0 := fun k => x.hi q hq hm k h3
  by_cases k1 : p = m
  · subst k1; exact e2 (by omega)
  · by_cases k2 : q = m
    · subst k2; exact e1 (by omega)
    · exact le_of W (e2 (by omega)) (e1 (by omega))
theorem Parted.left (W : Weak (lessC c)) (x : Parted c a b m G) (w : Within a m G G') : Parted c a b m G' := by
  have hl := w.len
  refine ⟨x.ge, x.lt, by have := x.hb; omega, fun k h hm h1 h2 => ?_, fun k h hm h1 h2 => ?_⟩
  · obtain ⟨k', k1, k2, k3, e⟩ := w.mem h1 h2 h
    rw [e, w.same (k := m) (.inr (by omega)) hm (by omega)]
    exact x.lo k' k3 _ k1 k2
  · rw [w.same (k := m) (.inr (by omega)) hm (by omega), w.same (k := k) (.inr (by omega)) h (by omega)]
    exact x.hi k _ _ h1 h2
theorem Parted.right (W : Weak (lessC c)) (x : Parted c a b m G) (w : Within (m + 1) b G G') : Parted c a b m G' := by
  have hl := w.len
  refine ⟨x.ge, x.lt, by have := x.hb; omega, fun k h hm h1 h2 => ?_, fun k h hm h1 h2 => ?_⟩
  · rw [w.same (k := m) (.inl (by omega)) hm (by omega), w.same (k := k) (.inl (by omega)) h (by omega)]
    exact x.lo k _ _ h1 h2
  · obtain ⟨k', k1, k2, k3, e⟩ := w.mem (k := k) (by omega) h2 h
    rw [e, w.same (k := m) (.inl (by omega)) hm (by omega)]
    exact x.hi k' k3 _ (by omega) k2
theorem Cut.left (W : Weak (lessC c)) (x : Cut c A0 Z0 a b G) (p : Parted c a b m G) (s : Srt c a m G) : Cut c A0 Z0 (m + 1) b G := fun i j h1 h2 h3 h4 h5 h6 => by
  by_cases k : i < a ∨ b ≤ j
  · exact x i j h1 h2 h3 k h5 h6
  · by_cases k2 : j < m
    · exact s i j (by omega) h2 k2 h5 h6
    · exact p.pair W (by omega) h2 (by omega) (by omega) (by omega) h5 h6
theorem Cut.right (W : Weak (lessC c)) (x : Cut c A0 Z0 a b G) (p : Parted c a b m G) (s : Srt c (m + 1) b G) : Cut c A0 Z0 a m G := fun i j h1 h2 h3 h4 h5 h6 => by
  by_cases k : i < a ∨ b ≤ j
  · exact x i j h1 h2 h3 k h5 h6
  · by_cases k2 : m < i
    · exact s i j (by omega) h2 (by omega) h5 h6
    · exact p.pair W (by omega) h2 (by omega) (by omega) (by omega) h5 h6
theorem Cut.pre (x : Cut c A0 Z0 a b G) (h : A0 < a) (hb : b ≤ Z0) : Pre c a b G := fun h0 i h1 h2 h3 h4 => x (a - 1) i (by omega) (by omega) (by omega) (.inl (by omega)) h4 h3
theorem Pre.sub (x : Pre c a b G) (h : m ≤ b) : Pre c a m G := fun h0 i h1 h2 h3 h4 => x h0 i h1 (by omega) h3 h4
theorem Cut.equal (W : Weak (lessC c)) {i j : Nat} (x : Cut c A0 Z0 a b G) (p : EInv c a b G i j) (hji : j < i) (ha : 0 < a) (hp : Pre c a b G) (hlt : a < b) (hd : ∀ (h1 : a - 1 < G.length) (h2 : a < G.length), ¬ c G[a - 1] G[a] < 0) : Cut c A0 Z0 i b G := fun s t h1 h2 h3 h4 h5 h6 => by
  have e := p.hij
  have e3 := p.hi
  by_cases k : s < a ∨ b ≤ t
  · exact x s t h1 h2 h3 k h5 h6
  · have la : a < G.length := by omega
    have sp : ¬ c G[a] G[s] < 0 := by
      by_cases k3 : s = a
      · subst k3; exact le_self W _
      · exact p.lo s h5 la (by omega) (by omega)
    by_cases k2 : t < i
    · have t1 := hp ha t (by omega) (by omega) h6 (by omega)
      exact le_of W (le_of W t1 (hd (by omega) la)) sp
    · exact le_of W (nlt_of W (p.hi2 t h6 la (by omega) (by omega))) sp
end
abbrev I5 (F : AVal → AVal → AVal → AVal → AVal → AHeap → (AVal → AHeap → Prop) → Prop) (C : CSem) (n : Nat) : Prop := ∀ (v0 v1 v2 v3 v4 : AVal) (h : AHeap) (Q : AVal → AHeap → Prop), F v0 v1 v2 v3 v4 h (dn Q) → C n [v0, v1, v2, v3, v4] h Q
abbrev I4 (F : AVal → AVal → AVal → AVal → AHeap → (AVal → AHeap → Prop) → Prop) (C : CSem) (n : Nat) : Prop := ∀ (v0 v1 v2 v3 : AVal) (h : AHeap) (Q : AVal → AHeap → Prop), F v0 v1 v2 v3 h (dn Q) → C n [v0, v1, v2, v3] h Q
/-- The sort's functions. -/
structure PdqI (C : CSem) (E : ElOps) (f1 f2 f3 f4 f5 f6 f7 f8 f9 g1 g2 g3 g4 g5 g6 : Nat) : Prop where
  eq : I5 (slices_partitionEqualCmpFuncG.cps C E) C f1
  part : I5 (slices_partitionCmpFuncG.cps C E) C f2
  pdq : I5 (slices_pdqsortCmpFuncG.cps C E f1 f2 f3 f4 f5 f6 f7 f8 f9) C f3
  pis : I4 (slices_partialInsertionSortCmpFuncG.cps C E) C f4
  rev : I4 (slices_reverseRangeCmpFuncG.cps C E) C f5
  piv : I4 (slices_choosePivotCmpFuncG.cps C E g2 g3) C f6
  brk : I4 (slices_breakPatternsCmpFuncG.cps C E g5 g6) C f7
  heap : I4 (slices_heapSortCmpFuncG.cps C E g4) C f8
  ins : I4 (slices_insertionSortCmpFuncG.cps C E) C f9
  ord : O2I C E g1
  med : MedI C E g1 g2
  adj : AdjI C E g2 g3
  sift : SiftI C E g4
  next : NextI C g5
  pow : PowI C g6
section
variable {E : ElOps} {X : Type} {cs : X → List AVal} {v : X → AVal} {h0 h : AHeap} {x f : AVal} {G : List X} {R : List (List AVal)} {c : X → X → Int} {Q : AVal → AHeap → Prop} {Y : List AVal → AHeap → Prop} {f1 f2 f3 f4 f5 f6 f7 f8 f9 g1 g2 g3 g4 g5 g6 : Nat}
/-- What is known at each turn. -/
structure PS (E : ElOps) {X : Type} (cs : X → List AVal) (h0 : AHeap) (x : AVal) (R : List (List AVal)) (c : X → X → Int) (A0 Z0 : Nat) (G0 : List X) (a b : Nat) (G : List X) (h : AHeap) : Prop where
  hA : A0 ≤ a
  hab : a ≤ b
  hB : b ≤ Z0
  W : Within A0 Z0 G0 G
  cut : Cut c A0 Z0 a b G
  pre : Pre c a b G
  o : Rw E cs h0 h x G R
theorem PS.turn {A0 Z0 a b : Nat} {G0 G' : List X} {h' : AHeap} (p : PS E cs h0 x R c A0 Z0 G0 a b G h) (w : Within a b G G') (o : Rw E cs h0 h' x G' R) : PS E cs h0 x R c A0 Z0 G0 a b G' h' :=
  ⟨p.hA, p.hab, p.hB, p.W.trans (w.mono p.hA p.hB), p.cut.within w p.hA p.hB, p.pre.within w, o⟩
/-- What a turn leads to. -/
abbrev Go1 (E : ElOps) {X : Type} (cs : X → List AVal) (h0 : AHeap) (x : AVal) (R : List (List AVal)) (c : X → X → Int) (A0 Z0 : Nat) (G0 : List X) (n : Nat) (Y : List AVal → AHeap → Prop) : Prop :=
  ∀ a b (lim : Int) w1 w2 G h, b - a < n → PS E cs h0 x R c A0 Z0 G0 a b G h → Y [.int .i64 (a : Int), .int .i64 (b : Int), .int .i64 lim, .bool w1, .bool w2] h
theorem pdq_k1 (J : PdqI C E f1 f2 f3 f4 f5 f6 f7 f8 f9 g1 g2 g3 g4 g5 g6) (S : SeqSpec E cs v) (W : Weak (lessC c)) (hc : CmpSpec C v c f h0) {A0 Z0 a b : Nat} {G0 : List X} {lim : Int} {w1 w2 : Bool} {pv : Nat} (p : PS E cs h0 x R c A0 Z0 G0 a b G h) (hl : G.length ≤ 100000000) (hBl : Z0 ≤ G.length)
    (h1 : a ≤ pv) (h2 : pv < b)
    (rcs : ∀ (a' b' : Nat) (lim : Int) (h : AHeap) (G : List X) (Q : AVal → AHeap → Prop), b' - a' < b - a → a' ≤ b' → b' ≤ G.length → G.length ≤ 100000000 → Pre c a' b' G → Rw E cs h0 h x G R → (∀ h' G', Within a' b' G G' → Srt c a' b' G' → Rw E cs h0 h' x G' R → Q (.tup []) h') →
      C f3 [x, .int .i64 (a' : Int), .int .i64 (b' : Int), .int .i64 lim, f] h Q)
    (hY : Go1 E cs h0 x R c A0 Z0 G0 (b - a) Y) :
    slices_pdqsortCmpFuncG.k1 C E f1 f2 f3 f4 f5 f6 f7 f8 f9 Q Y x (.int .i64 (a : Int)) (.int .i64 (b : Int)) (.int .i64 lim) f (.bool w1) (.bool w2) (.int .i64 ((b - a : Nat) : Int)) (.int .i64 (pv : Int)) h := by
  have hA := p.hA; have hB := p.hB; have o := p.o
  have lp : pv < G.length := by omega
  have part : slices_pdqsortCmpFuncG.k1 C E f1 f2 f3 f4 f5 f6 f7 f8 f9 Q Y x (.int .i64 (a : Int)) (.int .i64 (b : Int)) (.int .i64 lim) f (.bool w1) (.bool w2) (.int .i64 ((b - a : Nat) : Int)) (.int .i64 (pv : Int)) h =
    slices_pdqsortCmpFuncG.k1 C E f1 f2 f3 f4 f5 f6 f7 f8 f9 Q Y x (.int .i64 (a : Int)) (.int .i64 (b : Int)) (.int .i64 lim) f (.bool w1) (.bool w2) (.int .i64 ((b - a : Nat) : Int)) (.int .i64 (pv : Int)) h := rfl
  clear part
  have part : C f2 [x, .int .i64 (a : Int), .int .i64 (b : Int), .int .i64 (pv : Int), f] h (fun v111 h =>
    B.pv (V.ext 0 v111) fun v112 =>
    B.pv (V.ext 1 v111) fun v113 =>
    B.pv (V.bin .sub v112 (.int .i64 (a : Int))) fun v117 =>
    B.pv (V.bin .sub (.int .i64 (b : Int)) v112) fun v120 =>
    B.pv (V.bin .quo (.int .i64 ((b - a : Nat) : Int)) (.int .i64 8)) fun v122 =>
    B.pv (V.bin .lss v117 v120) fun v125 =>
    B.cond v125
    (B.pv (V.bin .geq v117 v122) fun v128 =>
    B.call C f3 [x, .int .i64 (a : Int), v112, .int .i64 lim, f] h fun v134 h =>
    B.pv (V.bin .add v112 (.int .i64 1)) fun v136 =>
    Y [v136, .int .i64 (b : Int), .int .i64 lim, v128, v113] h)
    (B.pv (V.bin .geq v120 v122) fun v139 =>
    B.pv (V.bin .add v112 (.int .i64 1)) fun v142 =>
    B.call C f3 [x, v142, .int .i64 (b : Int), .int .i64 lim, f] h fun v146 h =>
    Y [.int .i64 (a : Int), v112, .int .i64 lim, v139, v113] h)) := by
    refine J.part _ _ _ _ _ _ _ (partition_spec S hc o (by omega) h1 h2 (by omega) fun h3 m G3 t pt W3 o3 => dn_same ?_)
    have p3 := p.turn W3 o3
    have l3 := W3.len
    have m1 := pt.ge; have m2 := pt.lt
    have q8 : V.bin .quo (.int .i64 ((b - a : Nat) : Int)) (.int .i64 8) = some (.int .i64 (((b - a) / 8 : Nat) : Int)) := by
      rw [V.bin_quo _ _ _ (by omega), show ((b - a : Nat) : Int).tdiv 8 = (((b - a) / 8 : Nat) : Int) from rfl, wrap_i64 (by omega) (by omega)]
    simp -dsimp only [V.ext_tup, List.getElem?_cons_zero, List.getElem?_cons_succ, B.pv_some, subNN m1 (show m < 4611686018427387904 by omega), subNN (show m ≤ b by omega) (show b < 4611686018427387904 by omega), q8, lssN, geqN, add1 (show m < 4611686018427387904 by omega)]
    refine B.cond_bool (fun hd => ?_) (fun hd => ?_)
    · simp -dsimp only [geqN, add1 (show m < 4611686018427387904 by omega), B.pv_some]
      refine rcs a m lim _ G3 _ (by omega) m1 (by omega) (by omega) (p3.pre.sub (by omega)) o3 fun h4 G4 W4 s4 o4 => ?_
      have pt4 := pt.left W W4
      have cut4 := (p3.cut.within (W4.mono (Nat.le_refl _) (by omega)) hA hB).left W pt4 s4
      simp -dsimp only [add1 (show m < 4611686018427387904 by omega), B.pv_some]
      exact hY (m + 1) b lim _ _ G4 h4 (by omega) ⟨by omega, by omega, hB, p3.W.trans (W4.mono hA (by omega)), cut4, cut4.pre (by omega) hB, o4⟩
    · have c3 : Pre c (m + 1) b G3 := fun h0 i k1 k2 k3 k4 => pt.pair W (p := m + 1 - 1) (q := i) (by omega) (by omega) k2 (by omega) (by omega) k4 k3
      simp -dsimp only [geqN, add1 (show m < 4611686018427387904 by omega), B.pv_some]
      refine rcs (m + 1) b lim _ G3 _ (by omega) (by omega) (by omega) (by omega) c3 o3 fun h4 G4 W4 s4 o4 => ?_
      have pt4 := pt.right W W4
      have W4' : Within a b G3 G4 := W4.mono (by omega) (Nat.le_refl _)
      have cut4 := (p3.cut.within W4' hA hB).right W pt4 s4
      exact hY a m lim _ _ G4 h4 (by omega) ⟨hA, m1, by omega, p3.W.trans (W4.mono (by omega) hB), cut4, (p3.pre.within W4').sub (by omega), o4⟩
  simp -dsimp only [slices_pdqsortCmpFuncG.k1]
  have g0 : V.bin .gtr (.int .i64 (a : Int)) (.int .i64 0) = some (.bool (decide (0 < a))) := gtrN (b := 0)
  simp -dsimp only [g0, B.pv_some]
  by_cases ha : 0 < a
  · have la : a - 1 < G.length := by omega
    simp -dsimp only [ha, decide_true, B.gd_t, B.gdb_true, sub1 (show 1 ≤ a by omega) (show a < 4611686018427387904 by omega), o.idx la, o.idx lp, B.pv_some]
    refine o.ld S (List.getElem?_eq_getElem la) ?_
    refine o.ld S (List.getElem?_eq_getElem lp) ?_
    refine hc.call _ _ _ _ o.le ?_
    simp -dsimp only [ha, decide_true, B.gd_t, B.gdb_true, V.bin_lss, V.un_not, B.pick_t, B.pv_some]
    refine B.cond_bool (fun he => ?_) (fun he => part)
    have hd : ¬ c G[a - 1] G[pv] < 0 := by simpa using he
    refine J.eq _ _ _ _ _ _ _ (partitionEqual_spec S hc o (by omega) h1 h2 (by omega) fun h3 i j G3 pe hji W3 e3 o3 => dn_same ?_)
    have p3 := p.turn W3 o3
    have l3 := W3.len
    have k1 := pe.hi; have k2 := pe.hij; have k3 := pe.hj
    have cut4 := p3.cut.equal W pe hji ha p3.pre (by omega) fun q1 q2 => by
      rw [e3 q2 lp, W3.same (.inl (by omega)) q1 la]; exact hd
    exact hY i b lim _ _ G3 h3 (by omega) ⟨by omega, by omega, hB, p3.W, cut4, cut4.pre (by omega) hB, o3⟩
  · simp -dsimp only [ha, decide_false, B.gd_t, B.gdb_false, B.pick_f, B.cond_false]
    exact part
/-- A0 range is put in order. -/
theorem pdq_spec (J : PdqI C E f1 f2 f3 f4 f5 f6 f7 f8 f9 g1 g2 g3 g4 g5 g6) (S : SeqSpec E cs v) (W : Weak (lessC c)) (hc : CmpSpec C v c f h0) : ∀ (n : Nat) (A0 Z0 : Nat) (lim : Int) (h : AHeap) (G : List X) (Q : AVal → AHeap → Prop), Z0 - A0 = n → A0 ≤ Z0 → Z0 ≤ G.length → G.length ≤ 100000000 → Pre c A0 Z0 G → Rw E cs h0 h x G R →
    (∀ h' G', Within A0 Z0 G G' → Srt c A0 Z0 G' → Rw E cs h0 h' x G' R → Q (.tup []) h') → slices_pdqsortCmpFuncG.cps C E f1 f2 f3 f4 f5 f6 f7 f8 f9 x (.int .i64 (A0 : Int)) (.int .i64 (Z0 : Int)) (.int .i64 lim) f h Q := by
  intro n
  induction n using Nat.strongRecOn with
  | ind n ih =>
  intro A0 Z0 lim h G0 Q hn hAB hBl hl hpre ho hq
  simp -dsimp only [slices_pdqsortCmpFuncG.cps]
  refine LoopR.intro (fun t vs hh => ∃ (a b : Nat) (lim : Int) (w1 w2 : Bool) (G : List X), t = b - a ∧ vs = [.int .i64 (a : Int), .int .i64 (b : Int), .int .i64 lim, .bool w1, .bool w2] ∧ PS E cs h0 x R c A0 Z0 G0 a b G hh) (Z0 - A0) ?_
    ⟨A0, Z0, lim, true, true, G0, rfl, rfl, ⟨Nat.le_refl _, hAB, Nat.le_refl _, Within.refl _ _ _, fun p q _ _ _ k => by omega, hpre, ho⟩⟩
  rintro Y t vs hh ⟨a, b, lim, w1, w2, G, rfl, rfl, p⟩ hY'
  have hY : Go1 E cs h0 x R c A0 Z0 G0 (b - a) Y := fun a' b' lim' w1' w2' G' h' hlt p' => hY' (b' - a') _ _ hlt ⟨a', b', lim', w1', w2', G', rfl, rfl, p'⟩
  clear hY'
  have hA := p.hA; have hab := p.hab; have hB := p.hB
  have lG := p.W.len
  have rcs : ∀ (a' b' : Nat) (lim : Int) (h : AHeap) (G : List X) (Q : AVal → AHeap → Prop), b' - a' < b - a → a' ≤ b' → b' ≤ G.length → G.length ≤ 100000000 → Pre c a' b' G → Rw E cs h0 h x G R → (∀ h' G', Within a' b' G G' → Srt c a' b' G' → Rw E cs h0 h' x G' R → Q (.tup []) h') →
      C f3 [x, .int .i64 (a' : Int), .int .i64 (b' : Int), .int .i64 lim, f] h Q := fun a' b' lim h G Q k1 k2 k3 k4 k5 k6 k7 =>
    J.pdq _ _ _ _ _ _ _ (ih (b' - a') (by omega) a' b' lim h G _ rfl k2 k3 k4 k5 k6 fun h' G' w s o => dn_same (k7 h' G' w s o))
  have fin : ∀ {hh G G2}, PS E cs h0 x R c A0 Z0 G0 a b G hh → ∀ h', Within a b G G2 → Srt c a b G2 → Rw E cs h0 h' x G2 R → Q (.tup []) h' := fun p h' w s o => by
    have p2 := p.turn w o
    exact hq h' _ p2.W (p2.cut.join s) o
  have e12 : V.bin .leq (.int .i64 ((b - a : Nat) : Int)) (.int .i64 12) = some (.bool (decide (b - a ≤ 12))) := leqN (b := 12)
  simp -dsimp only [slices_pdqsortCmpFuncG.l8, subNN hab (show b < 4611686018427387904 by omega), B.pv_some, slices_pdqsortCmpFuncG.k7, e12]
  refine B.cond_bool (fun hd => ?_) (fun hd => ?_)
  · exact J.ins _ _ _ _ _ _ (insertion_srt S W hc p.o (by omega) hab (by omega) fun h' G' w s o => dn_same (fin p h' w s o))
  rw [decide_eq_false_iff_not] at hd
  simp -dsimp only [slices_pdqsortCmpFuncG.k6, V.bin_eql, B.pv_some]
  refine B.cond_bool (fun _ => ?_) (fun _ => ?_)
  · exact J.heap _ _ _ _ _ _ (heapSort_spec J.sift S W hc p.o (by omega) (by omega) (by omega) fun h' G' w s o => dn_same (fin p h' w s o))
  have k4 : ∀ {hh G} (lim : Int), PS E cs h0 x R c A0 Z0 G0 a b G hh → slices_pdqsortCmpFuncG.k4 C E f1 f2 f3 f4 f5 f6 f7 f8 f9 Q Y x (.int .i64 (a : Int)) (.int .i64 (b : Int)) (.int .i64 lim) f (.bool w1) (.bool w2) (.int .i64 ((b - a : Nat) : Int)) hh := fun {hh G} lim p => by
    have lG := p.W.len
    simp -dsimp only [slices_pdqsortCmpFuncG.k4]
    refine J.piv _ _ _ _ _ _ (choosePivot_spec J.ord J.med J.adj S (Owns.slAt p.o 0 rfl) p.o.le hc (by omega) (by omega) (by omega) fun m hint h2 m1 m2 hle => dn_same ?_)
    have p2 : PS E cs h0 x R c A0 Z0 G0 a b G h2 := ⟨p.hA, p.hab, p.hB, p.W, p.cut, p.pre, Owns.grow p.o hle⟩
    simp -dsimp only [V.ext_tup, List.getElem?_cons_zero, List.getElem?_cons_succ, B.pv_some, slices_pdqsortCmpFuncG.k3, V.bin_eql]
    have k2 : ∀ {hh G} (pv : Nat) (hint : Int), a ≤ pv → pv < b → PS E cs h0 x R c A0 Z0 G0 a b G hh → slices_pdqsortCmpFuncG.k2 C E f1 f2 f3 f4 f5 f6 f7 f8 f9 Q Y x (.int .i64 (a : Int)) (.int .i64 (b : Int)) (.int .i64 lim) f (.bool w1) (.bool w2) (.int .i64 ((b - a : Nat) : Int)) (.int .i64 (pv : Int)) (.int .i64 hint) hh := fun {hh G} pv hint q1 q2 p => by
      have lG := p.W.len
      have go := pdq_k1 (Q := Q) (lim := lim) (w1 := w1) (w2 := w2) J S W hc p (by omega) (by omega) q1 q2 rcs hY
      simp -dsimp only [slices_pdqsortCmpFuncG.k2]
      have two : B.cond (.bool true) (B.call C f4 [x, .int .i64 (a : Int), .int .i64 (b : Int), f] hh fun v80 h =>
          B.cond v80 (Q (.tup []) h) (slices_pdqsortCmpFuncG.k1 C E f1 f2 f3 f4 f5 f6 f7 f8 f9 Q Y x (.int .i64 (a : Int)) (.int .i64 (b : Int)) (.int .i64 lim) f (.bool w1) (.bool w2) (.int .i64 ((b - a : Nat) : Int)) (.int .i64 (pv : Int)) h))
          (slices_pdqsortCmpFuncG.k1 C E f1 f2 f3 f4 f5 f6 f7 f8 f9 Q Y x (.int .i64 (a : Int)) (.int .i64 (b : Int)) (.int .i64 lim) f (.bool w1) (.bool w2) (.int .i64 ((b - a : Nat) : Int)) (.int .i64 (pv : Int)) hh) := by
        rw [B.cond_true]
        refine J.pis _ _ _ _ _ _ (partialInsertionSort_spec S W hc p.o (by omega) (by omega) (by omega) p.pre fun h' G' t w s o => dn_same ?_)
        have p' := p.turn w o
        have lG' := p'.W.len
        refine B.cond_bool (fun ht => fin p h' w (s ht) o) (fun _ => ?_)
        exact pdq_k1 (Q := Q) (lim := lim) (w1 := w1) (w2 := w2) J S W hc p' (by omega) (by omega) q1 q2 rcs hY
      cases w1 <;> cases w2
      · simp -dsimp only [B.gd_t, B.gdb_false, B.pick_f, B.cond_false]; exact go
      · simp -dsimp only [B.gd_t, B.gdb_false, B.pick_f, B.cond_false]; exact go
      · simp -dsimp only [B.gd_t, B.gdb_true, B.gdb_false, B.pick_t, B.pick_f, B.cond_false]; exact go
      · by_cases hh1 : hint = 1
        · simp -dsimp only [B.gd_t, B.gdb_true, V.bin_eql, hh1, decide_true, B.pv_some, B.pick_t]; exact two
        · simp -dsimp only [B.gd_t, B.gdb_true, V.bin_eql, hh1, decide_false, B.pv_some, B.pick_t, B.cond_false]; exact go
    refine B.cond_bool (fun _ => ?_) (fun _ => k2 m hint m1 m2 p2)
    refine J.rev _ _ _ _ _ _ (reverseRange_spec S (by omega) p2.o (by omega) (by omega) fun h3 G3 w3 o3 => dn_same ?_)
    simp -dsimp only [sub1 (show 1 ≤ b by omega) (show b < 4611686018427387904 by omega), subNN m1 (show m < 4611686018427387904 by omega), subNN (show m - a ≤ b - 1 by omega) (show b - 1 < 4611686018427387904 by omega), B.pv_some]
    exact k2 (b - 1 - (m - a)) 1 (by omega) (by omega) (p2.turn w3 o3)
  simp -dsimp only [slices_pdqsortCmpFuncG.k5, V.un_not, B.pv_some]
  refine B.cond_bool (fun _ => ?_) (fun _ => k4 lim p)
  refine J.brk _ _ _ _ _ _ (breakPatterns_spec J.next J.pow S p.o (by omega) hab (by omega) fun h' G' w o => dn_same ?_)
  simp -dsimp only [V.bin_sub, B.pv_some]
  exact k4 _ (p.turn w o)
/-- A0 list is put in order. -/
theorem SortFunc_spec {fl : Nat} (J : PdqI C E f1 f2 f3 f4 f5 f6 f7 f8 f9 g1 g2 g3 g4 g5 g6) (hlen : LenI C fl) (S : SeqSpec E cs v) (W : Weak (lessC c)) (hc : CmpSpec C v c f h0) (hl : G.length ≤ 100000000) (ho : Rw E cs h0 h x G R)
    (hq : ∀ h' G', G'.Perm G → G'.Pairwise (fun s t => ¬ c t s < 0) → Rw E cs h0 h' x G' R → Q (.tup []) h') : slices_SortFuncG.cps C E fl f3 x f h Q := by
  simp -dsimp only [slices_SortFuncG.cps, slices_SortFuncG.k1, ho.lenE, toUN (show G.length < 18446744073709551616 by omega), B.pv_some]
  refine hlen _ _ _ hl fun r hr _ => ?_
  refine J.pdq _ _ _ _ _ _ _ (pdq_spec J S W hc _ 0 G.length r h G _ rfl (by omega) (Nat.le_refl _) hl (fun h => by omega) ho fun h' G' w s o => dn_same ?_)
  refine hq h' G' w.perm ?_ o
  rw [List.pairwise_iff_getElem]
  intro i j hi hj hij
  have := w.len
  exact s i j (by omega) hij (by omega) hi hj
end
end Go.Ab

/- What is proved: contracts: bytes compared, cloned; rows right; turns told, turned round. No conditions. -/
set_option linter.unusedVariables false
set_option linter.unusedSimpArgs false
namespace Go.Ab
variable {C : CSem} {N : Nat → Nat}
theorem Bs.sl {h : AHeap} {x : AVal} {b : List UInt8} (hb : Bs h x b) : ∃ R, SlX h 1 x (b.map bc) R := hb.1
theorem bOb_bs {h0 h : AHeap} {x : AVal} {s : List UInt8} {b : Bool} (hs : s.length ≤ far) (ho : Owns h0 h [bOb b x s]) : Bs h x s := bOb_at hs (ho.is _ (List.mem_singleton_self _))
theorem row_get {h : AHeap} {x : AVal} {L : List Row} (hx : Dl rowK h x L) {i : Nat} {r : Row} (hr : L[i]? = some r) : ∃ k v, V.idxS 2 x (.int .i64 (i : Int)) = some (elp 2 x i 0) ∧ A.ldnv h (elp 2 x i 0) 2 = some (.agg [k, v]) ∧ V.fieldAddr 0 (elp 2 x i 0) = some (elp 2 x i 0) ∧
    V.fieldAddr 1 (elp 2 x i 0) = some (elp 2 x i 1) ∧ A.ldv h (elp 2 x i 0) = some k ∧ A.ldv h (elp 2 x i 1) = some v ∧ Bs h k r.Key ∧ Bs h v r.Value := by
  obtain ⟨a, ea⟩ := hx.get hr
  exact ⟨a.1, a.2, ea.idx, ea.ldn, ea.fld 0 0, ea.fld 0 1, ea.ld 0 (by decide), ea.ld 1 (by decide), ea.at_.1, ea.at_.2⟩
theorem turn_get {h : AHeap} {x : AVal} {L : List Turn} (hx : Dl turnK h x L) {i : Nat} {r : Turn} (hr : L[i]? = some r) : ∃ k v w, V.idxS 3 x (.int .i64 (i : Int)) = some (elp 3 x i 0) ∧ A.ldnv h (elp 3 x i 0) 3 = some (.agg [k, v, w]) ∧ V.fieldAddr 0 (elp 3 x i 0) = some (elp 3 x i 0) ∧
    V.fieldAddr 1 (elp 3 x i 0) = some (elp 3 x i 1) ∧ V.fieldAddr 2 (elp 3 x i 0) = some (elp 3 x i 2) ∧ A.ldv h (elp 3 x i 0) = some k ∧ A.ldv h (elp 3 x i 1) = some v ∧ A.ldv h (elp 3 x i 2) = some w ∧ Bs h k r.Key ∧ Bs h v r.Old ∧ Bs h w r.New := by
  obtain ⟨a, ea⟩ := hx.get hr
  exact ⟨a.1, a.2.1, a.2.2, ea.idx, ea.ldn, ea.fld 0 0, ea.fld 0 1, ea.fld 0 2, ea.ld 0 (by decide), ea.ld 1 (by decide), ea.ld 2 (by decide), ea.at_.1, ea.at_.2.1, ea.at_.2.2⟩
theorem lenZ {α : Type} [DecidableEq α] (s : List α) : decide ((s.length : Int) = 0) = decide (s = []) := by
  cases s with
  | nil => rfl
  | cons a s => simp; omega
def bytes_Compare.Spec (C : CSem) (N : Nat → Nat) : Prop := ∀ (x y : AVal) (a b : List UInt8) (h : AHeap) (Q : AVal → AHeap → Prop), Bs h x a → Bs h y b → Q (.int .i64 (cmpB a b)) h → C (N 274) [x, y] h Q
theorem bytes_Compare.spec (i : bytes_Compare.Imp C N) (i2 : bytealg_Compare.Imp C N) : bytes_Compare.Spec C N := fun x y a b h Q ⟨⟨R, hx⟩, _⟩ ⟨⟨S, hy⟩, _⟩ hq =>
  i x y h Q (i2 x y a b R S h _ hx hy (dn_same hq))
def bytes_Equal.Spec (C : CSem) (N : Nat → Nat) : Prop := ∀ (x y : AVal) (a b : List UInt8) (h : AHeap) (Q : AVal → AHeap → Prop), Bs h x a → Bs h y b → Q (.bool (decide (a = b))) h → C (N 273) [x, y] h Q
theorem bytes_Equal.spec (i : bytes_Equal.Imp C N) : bytes_Equal.Spec C N := fun x y a b h Q ⟨⟨R, hx⟩, _⟩ ⟨⟨S, hy⟩, _⟩ hq => by
  apply i
  simp -dsimp only [bytes_Equal.cps, bytesStr_bc hx, bytesStr_bc hy, V.bin_seql, B.pv_some]
  exact dn_same hq
theorem clone_specL {E : ElOps} {X : Type} {cs : X → List AVal} {v : X → AVal} (S : SeqSpec E cs v) {x : AVal} {L : List X} {R : List (List AVal)} {h : AHeap} {Q : AVal → AHeap → Prop} (hx : SlX h E.es x (L.map cs) R) (hlen : L.length ≤ 4611686018427387000) (hm : L.length * E.bytes ≤ 140737488355328)
    (hq : ∀ x' h', Rw E cs h h' x' L [] → Q x' h') : slices_CloneG.cps C E x h Q := by
  have cp : B.appW h E.es E.bytes .sz x (fun v7 h => Q v7 h) := by
    refine Owns.appW ((Owns.start h).sz E.es) 0 rfl hx S.pos (by simp; omega) (by simp [maxLen]; omega) fun x' h' h1 _ => hq x' h' ?_
    simpa [Rw] using h1
  rcases hx.2 with ⟨e1, e2, rfl | rfl⟩ | ⟨id, g, off, cp', b, hi, rfl, h3⟩
  · simp -dsimp [V.eqSl]
    refine hq _ _ ?_
    unfold Rw
    rw [e1]
    exact (Owns.start h).nils E.es
  · simp -dsimp [V.eqSl]
    exact cp
  · simp -dsimp [V.eqSl]
    rw [List.length_map] at cp
    exact cp
theorem byteS : SeqSpec (opsS 1 (.int .u8 0) 0) bc (fun b : UInt8 => .int .u8 (b.toNat : Int)) := seqS (by omega) fun _ => rfl
def slices_Clone_byte_byte.Spec (C : CSem) (N : Nat → Nat) : Prop := ∀ (x : AVal) (s : List UInt8) (h : AHeap) (Q : AVal → AHeap → Prop), Bs h x s → (∀ x' h', Owns h h' [bOb false x' s] → Q x' h') → C (N 284) [x] h Q
theorem slices_Clone_byte_byte.spec (i : slices_Clone_byte_byte.Imp C N) : slices_Clone_byte_byte.Spec C N := fun x s h Q ⟨⟨R, hx⟩, hs⟩ hq =>
  i x h Q (clone_specL byteS hx (by unfold far at hs; omega) (by simp [opsS]; unfold far at hs; omega) fun x' h' o => dn_same (hq x' h' o))
theorem strBytes_own {h : AHeap} {s : List UInt8} {K : AVal → AHeap → Prop} (hs : s.length ≤ far) (hk : ∀ x' h', Owns h h' [bOb false x' s] → K x' h') : B.strBytes h (.str s) K := by
  refine ⟨by unfold far at hs; omega, fun id hid => hk _ _ ?_⟩
  exact (Owns.start h).newSl (id := id) (n := s.length) (cp := s.length) (es := 1) (cs := s.map fun b => .int .u8 b.toNat) (L := s.map bc) (R := []) hid (by simp) (by simp) (by simp) (by rw [List.append_nil, bc_flat])
def delta_turn.Spec (C : CSem) (N : Nat → Nat) : Prop := ∀ (x y z : AVal) (t : Turn) (h : AHeap) (Q : AVal → AHeap → Prop), Bs h x t.Key → Bs h y t.Old → Bs h z t.New → (∀ a' h', Owns h h' (turnK.obs false t a') → Q (.agg (turnK.cells a')) h') → C (N 272) [x, y, z] h Q
theorem delta_turn.spec (i : delta_turn.Imp C N) (s1 : slices_Clone_byte_byte.Spec C N) : delta_turn.Spec C N := by
  intro x y z t h Q a1 a2 a3 hq
  apply i
  simp -dsimp
  refine s1 _ _ _ _ a1 fun x1 h1 o1 => ?_
  refine s1 _ _ _ _ (a2.mono o1.le) fun x2 h2 o2 => ?_
  have o12 := o1.join o2
  refine s1 _ _ _ _ (a3.mono o12.le) fun x3 h3 o3 => ?_
  simp -dsimp [(bOb_bs a1.2 o1).isCell, (bOb_bs a2.2 o2).isCell, (bOb_bs a3.2 o3).isCell]
  exact dn_same (hq (x1, x2, x3) h3 (o12.join o3))
theorem rightAt_some {l : List Row} {i : Nat} {r : Row} (h : l[i]? = some r) : rightAt l i = (!decide (r.Key = []) && !decide (r.Value = []) && (decide (i = 0) || match l[i - 1]? with | some p => lessB p.Key r.Key | none => true)) := by
  first | (unfold rightAt; rw [h]; done) | (unfold rightAt; rw [h]; rfl)
theorem rightR_false {l : List Row} {i : Nat} (hi : i < l.length) (h : rightAt l i = false) : rightR l = false := by
  unfold rightR
  rw [List.all_eq_false]
  exact ⟨i, by simpa using hi, by simp [h]⟩
theorem rightR_true {l : List Row} (h : ∀ i, i < l.length → rightAt l i = true) : rightR l = true := by
  unfold rightR
  rw [List.all_eq_true]
  exact fun i hi => h i (by simpa using hi)
def delta_right.Spec (C : CSem) (N : Nat → Nat) : Prop := ∀ (x : AVal) (L : List Row) (h : AHeap) (Q : AVal → AHeap → Prop), Dl rowK h x L → L.length < 4611686018427387904 → Q (.bool (rightR L)) h → C (N 275) [x] h Q
theorem delta_right.spec (i : delta_right.Imp C N) (s1 : bytes_Compare.Spec C N) : delta_right.Spec C N := by
  intro x L h Q hx hlen hq
  apply i
  simp -dsimp only [delta_right.cps, hx.lenSl, B.pv_some]
  refine LoopR.intro (fun n vs hh => ∃ k : Nat, k + n = L.length ∧ vs = [.int .i64 (k : Int)] ∧ hh = h ∧ ∀ j, j < k → rightAt L j = true) L.length ?_ ⟨0, by simp, rfl, rfl, fun j hj => by omega⟩
  rintro Y n vs hh ⟨k, hn, rfl, rfl, hall⟩ hY
  simp -dsimp only [delta_right.l2, delta_right.k1, V.bin_lss, B.pv_some]
  refine B.cond_bool (fun hc => ?_) (fun hc => ?_)
  · have hk : k < L.length := by simpa using hc
    obtain ⟨r, hr⟩ := get_lt hk
    obtain ⟨kx, vx, e1, e2, e3, e4, e5, e6, b1, b2⟩ := row_get hx hr
    have er := rightAt_some hr
    have no : rightAt L k = false → dn Q (.bool false) hh := fun e => by rw [rightR_false hk e] at hq; exact dn_same hq
    have yes : rightAt L k = true → Y [.int .i64 ((k + 1 : Nat) : Int)] hh := fun e => hY (L.length - (k + 1)) _ _ (by omega) ⟨k + 1, by omega, rfl, rfl, fun j hj => by
      by_cases h : j = k
      · subst h; exact e
      · exact hall j (by omega)⟩
    by_cases hkey : r.Key = []
    · simp -dsimp [e1, e2, b1.lenSl, hkey]
      exact no (by rw [er, hkey]; rfl)
    · have hkz : decide ((r.Key.length : Int) = 0) = false := by rw [lenZ]; simp [hkey]
      by_cases hval : r.Value = []
      · simp -dsimp [e1, e2, b1.lenSl, b2.lenSl, hkey, hval]
        exact no (by rw [er, hval]; simp)
      · by_cases h0 : k = 0
        · simp -dsimp [e1, e2, b1.lenSl, b2.lenSl, hkey, hval, show ¬ 0 < k by omega, add1 (show k < 4611686018427387904 by omega), - V.bin_add]
          exact yes (by rw [er]; simp [hkey, hval, h0])
        · obtain ⟨p, hp⟩ := get_lt (L := L) (k := k - 1) (by omega)
          obtain ⟨kp, vp, f1, f2, f3, f4, f5, f6, c1, c2⟩ := row_get hx hp
          have sk := sub1 (a := k) (by omega) (by omega)
          have hk0 : 0 < k := by omega
          rw [hp] at er
          simp -dsimp [e1, e2, b1.lenSl, b2.lenSl, hkey, hval, sk, f1, f3, f5, hk0, - V.bin_sub]
          refine s1 _ _ _ _ _ _ c1 b1 ?_
          simp -dsimp [- V.bin_add, add1 (show k < 4611686018427387904 by omega)]
          refine B.cond_bool (fun hd => ?_) (fun hd => ?_)
          · have hd : 0 ≤ cmpB p.Key r.Key := by simpa using hd
            refine no ?_
            have : lessB p.Key r.Key = false := by
              cases e : lessB p.Key r.Key with
              | false => rfl
              | true => have := cmpB_neg.2 e; omega
            rw [er]; simp [this, h0]
          · have hd : cmpB p.Key r.Key < 0 := by simpa using hd
            simp -dsimp [- V.bin_add, add1 (show k < 4611686018427387904 by omega)]
            refine yes ?_
            rw [er]; simp [cmpB_neg.1 hd, hkey, hval]
  · have hk : k = L.length := by
      have : ¬ (k : Int) < L.length := by simpa using hc
      omega
    rw [rightR_true fun j hj => hall j (by omega)] at hq
    exact dn_same hq
/-- One more turn. -/
theorem turns_push (s1 : delta_turn.Spec C N) {h hh : AHeap} {o x y z : AVal} {t : Turn} {P : List (Turn × (AVal × AVal × AVal))} (ho : Df turnK h hh o P) (hl : P.length ≤ 10000000) (a1 : Bs hh x t.Key) (a2 : Bs hh y t.Old) (a3 : Bs hh z t.New) {K : AVal → AHeap → Prop}
    (hK : ∀ o' a' h', Df turnK h h' o' (P ++ [(t, a')]) → K o' h') : C (N 272) [x, y, z] hh (fun v52 h => B.newO h (fillL [(0, some 3, v52)] (repL 1 [.nils, .nils, .nils])) fun i53 h => B.appW h 3 72 o (.sl i53 0 0 1 3 1) K) := by
  refine s1 _ _ _ t _ _ a1 a2 a3 fun a' h4 o4 => ?_
  have hf : fillL [(0, some 3, .agg (turnK.cells a'))] (repL 1 [.nils, .nils, .nils]) = some (turnK.cells a') := fill_agg turnK a'
  rw [hf]
  refine (Owns.join ho o4).push 0 rfl (turnK.len a') (by decide) (by simp; omega) (by simp [maxLen]; omega) fun y5 h5 o5 _ => ?_
  refine hK y5 a' h5 ?_
  unfold Df
  rw [DK.os_append, DK.os_one, List.map_append]
  simp only [List.cons_append, List.set_cons_zero] at o5
  exact o5
def delta_Turns.Spec (C : CSem) (N : Nat → Nat) : Prop := ∀ (x y : AVal) (L M : List Row) (h : AHeap) (Q : AVal → AHeap → Prop), Dl rowK h x L → Dl rowK h y M → L.length + M.length ≤ 1000000 →
  (∀ x' P h', P.map (·.1) = turnsP L M → Df turnK h h' x' P → Q x' h') → C (N 255) [x, y] h Q
theorem delta_Turns.spec (i : delta_Turns.Imp C N) (s1 : delta_right.Spec C N) (s2 : bytes_Compare.Spec C N) (s3 : bytes_Equal.Spec C N) (s4 : delta_turn.Spec C N) : delta_Turns.Spec C N := by
  intro x y L M h Q hx hy hlen hq
  apply i
  simp -dsimp only [delta_Turns.cps, delta_Turns.k6]
  refine s1 _ _ _ _ hx (by omega) ?_
  have nil : (!rightR L || !rightR M) = true → dn Q .nils h := fun e => dn_same (hq .nils [] h (by unfold turnsP; rw [e]; rfl) (by simpa [Df, DK.os] using (Owns.start h).nils turnK.n))
  by_cases hL : rightR L = true
  · simp -dsimp [hL]
    refine s1 _ _ _ _ hy (by omega) ?_
    by_cases hM : rightR M = true
    · simp -dsimp [hM]
      have hq : ∀ x' P h', P.map (·.1) = turnsM L M → Df turnK h h' x' P → Q x' h' := fun x' P h' e o => hq x' P h' (by unfold turnsP; rw [hL, hM]; exact e) o
      refine LoopR.intro (fun n vs hh => ∃ (x' y' o : AVal) (L' M' : List Row) (P : List (Turn × (AVal × AVal × AVal))), n = L'.length + M'.length ∧ vs = [x', y', o] ∧ Dl rowK h x' L' ∧ Dl rowK h y' M' ∧ P.map (·.1) ++ turnsM L' M' = turnsM L M ∧ Df turnK h hh o P) (L.length + M.length) ?_
        ⟨x, y, .nils, L, M, [], rfl, rfl, hx, hy, rfl, by simpa [Df, DK.os] using (Owns.start h).nils turnK.n⟩
      rintro Y n vs hh ⟨x', y', o, L', M', P, rfl, rfl, hx', hy', hP, ho⟩ hY
      have hPl : P.length ≤ 1000000 := by
        have := congrArg List.length hP
        have h2 := turnsM_len L M
        simp only [List.length_append, List.length_map] at this
        omega
      have hxx := hx'.mono ho.le
      have hyy := hy'.mono ho.le
      have one : ∀ (c : Int) (a : Row) (as1 : List Row), L' = a :: as1 → c < 0 → turnsM L' M' = ⟨a.Key, a.Value, []⟩ :: turnsM as1 M' → delta_Turns.k2 C N (dn Q) Y x' y' o (.int .i64 c) hh := fun c a as1 e hc he => by
        subst e
        obtain ⟨kx, vx, e1, e2, e3, e4, e5, e6, b1, b2⟩ := row_get hxx (i := 0) (r := a) rfl
        obtain ⟨x2, t1, t2⟩ := hx'.tail
        have e1 : V.idxS 2 x' (.int .i64 0) = some (elp 2 x' 0 0) := e1
        have t1 : V.cutSl 2 x' (some (.int .i64 1)) none = some x2 := t1
        simp -dsimp [e1, e3, e4, e5, e6, hc]
        refine turns_push s4 (t := ⟨a.Key, a.Value, []⟩) ho (by omega) b1 b2 (Bs.nils _) fun o' a' h' o1 => ?_
        simp -dsimp [t1]
        refine hY (as1.length + M'.length) _ _ (by simp <;> omega) ⟨x2, y', o', as1, M', P ++ [(⟨a.Key, a.Value, []⟩, a')], rfl, rfl, t2, hy', ?_, o1⟩
        rw [he] at hP
        simpa using hP
      have two : ∀ (c : Int) (b : Row) (bs : List Row), M' = b :: bs → 0 < c → turnsM L' M' = ⟨b.Key, [], b.Value⟩ :: turnsM L' bs → delta_Turns.k2 C N (dn Q) Y x' y' o (.int .i64 c) hh := fun c b bs e hc he => by
        subst e
        obtain ⟨ky, vy, f1, f2, f3, f4, f5, f6, c1, c2⟩ := row_get hyy (i := 0) (r := b) rfl
        obtain ⟨y2, t1, t2⟩ := hy'.tail
        have f1 : V.idxS 2 y' (.int .i64 0) = some (elp 2 y' 0 0) := f1
        have t1 : V.cutSl 2 y' (some (.int .i64 1)) none = some y2 := t1
        simp -dsimp [f1, f3, f4, f5, f6, hc, show ¬ c < 0 by omega]
        refine turns_push s4 (t := ⟨b.Key, [], b.Value⟩) ho (by omega) c1 (Bs.nils _) c2 fun o' a' h' o1 => ?_
        simp -dsimp [t1, show ¬ c = 0 by omega]
        refine hY (L'.length + bs.length) _ _ (by simp <;> omega) ⟨x', y2, o', L', bs, P ++ [(⟨b.Key, [], b.Value⟩, a')], rfl, rfl, hx', t2, ?_, o1⟩
        rw [he] at hP
        simpa using hP
      simp -dsimp only [delta_Turns.l5, delta_Turns.k4, hx'.lenSl, hy'.lenSl, V.bin_gtr, B.pv_some]
      cases L' with
      | nil =>
        cases M' with
        | nil =>
          simp -dsimp [hy'.lenSl]
          refine dn_same (hq o P hh ?_ ho)
          rw [turnsM, List.append_nil] at hP
          exact hP
        | cons b bs =>
          simp -dsimp [hx'.lenSl, hy'.lenSl, - delta_Turns.k2]
          exact two 1 b bs rfl (by omega) (by rw [turnsM])
      | cons a as1 =>
        simp -dsimp [hx'.lenSl, hy'.lenSl, - delta_Turns.k2]
        cases M' with
        | nil =>
          simp -dsimp [hy'.lenSl, show ¬ ((as1.length : Int) + 1 = 0) by omega, - delta_Turns.k2]
          exact one (-1) a as1 rfl (by omega) (by rw [turnsM])
        | cons b bs =>
          obtain ⟨kx, vx, e1, e2, e3, e4, e5, e6, b1, b2⟩ := row_get hxx (i := 0) (r := a) rfl
          obtain ⟨ky, vy, f1, f2, f3, f4, f5, f6, c1, c2⟩ := row_get hyy (i := 0) (r := b) rfl
          have e1 : V.idxS 2 x' (.int .i64 0) = some (elp 2 x' 0 0) := e1
          have f1 : V.idxS 2 y' (.int .i64 0) = some (elp 2 y' 0 0) := f1
          simp -dsimp [hy'.lenSl, show ¬ ((as1.length : Int) + 1 = 0) by omega, show ¬ ((bs.length : Int) + 1 = 0) by omega, e1, e3, e5, f1, f3, f5, - delta_Turns.k2]
          refine s2 _ _ _ _ _ _ b1 c1 ?_
          by_cases h1 : cmpB a.Key b.Key < 0
          · exact one _ a as1 rfl h1 (by rw [turnsM, if_pos h1])
          · by_cases h2 : 0 < cmpB a.Key b.Key
            · exact two _ b bs rfl h2 (by rw [turnsM, if_neg h1, if_pos h2])
            · have h0 : cmpB a.Key b.Key = 0 := by omega
              obtain ⟨x2, t1, t2⟩ := hx'.tail
              obtain ⟨y2, u1, u2⟩ := hy'.tail
              have t1 : V.cutSl 2 x' (some (.int .i64 1)) none = some x2 := t1
              have u1 : V.cutSl 2 y' (some (.int .i64 1)) none = some y2 := u1
              have he : turnsM (a :: as1) (b :: bs) = if a.Value = b.Value then turnsM as1 bs else ⟨a.Key, a.Value, b.Value⟩ :: turnsM as1 bs := by rw [turnsM, if_neg h1, if_neg h2]
              rw [he] at hP
              simp -dsimp [h0, e1, e3, e4, e5, e6, f1, f3, f4, f5, f6]
              refine s3 _ _ _ _ _ _ b2 c2 ?_
              by_cases hv : a.Value = b.Value
              · simp -dsimp [hv, h0, t1, u1]
                rw [if_pos hv] at hP
                exact hY (as1.length + bs.length) _ _ (by simp <;> omega) ⟨x2, y2, o, as1, bs, P, rfl, rfl, t2, u2, hP, ho⟩
              · simp -dsimp [hv, e1, e3, e4, e5, e6, f1, f3, f4, f5, f6]
                rw [if_neg hv] at hP
                refine turns_push s4 (t := ⟨a.Key, a.Value, b.Value⟩) ho (by omega) b1 b2 c2 fun o' a' h' o1 => ?_
                simp -dsimp [h0, t1, u1]
                refine hY (as1.length + bs.length) _ _ (by simp <;> omega) ⟨x2, y2, o', as1, bs, P ++ [(⟨a.Key, a.Value, b.Value⟩, a')], rfl, rfl, t2, u2, ?_, o1⟩
                simpa using hP
    · simp -dsimp [hM]
      exact nil (by simp [hM])
  · simp -dsimp [hL]
    exact nil (by simp [hL])
theorem backR_snoc (t : Turn) (T : List Turn) : backR (t :: T) = backR T ++ [⟨t.Key, t.New, t.Old⟩] := by simp [backR]
def delta_Back.Spec (C : CSem) (N : Nat → Nat) : Prop := ∀ (x : AVal) (T : List Turn) (h : AHeap) (Q : AVal → AHeap → Prop), Dl turnK h x T → T.length ≤ 1000000 →
  (∀ x' P h', P.map (·.1) = backR T → Df turnK h h' x' P → Q x' h') → C (N 264) [x] h Q
theorem delta_Back.spec (i : delta_Back.Imp C N) (s4 : delta_turn.Spec C N) : delta_Back.Spec C N := by
  intro x T h Q hx hlen hq
  apply i
  have m1 : ∀ k : Nat, k ≤ 100000000 → V.bin .sub (.int .i64 (k : Int)) (.int .i64 1) = some (.int .i64 ((k : Int) - 1)) := fun k hk => by
    rw [V.bin_sub, wrap_i64 (by omega) (by omega)]
  simp -dsimp only [delta_Back.cps, hx.lenSl, m1 T.length (by omega), B.pv_some]
  refine LoopR.intro (fun n vs hh => ∃ (o : AVal) (P : List (Turn × (AVal × AVal × AVal))), n ≤ T.length ∧ vs = [o, .int .i64 ((n : Int) - 1)] ∧ P.map (·.1) = backR (T.drop n) ∧ Df turnK h hh o P) T.length ?_
    ⟨.nils, [], Nat.le_refl _, rfl, by simp [backR], by simpa [Df, DK.os] using (Owns.start h).nils turnK.n⟩
  rintro Y n vs hh ⟨o, P, hn, rfl, hP, ho⟩ hY
  have hPl : P.length ≤ 1000000 := by
    have := congrArg List.length hP
    simp [backR] at this
    omega
  simp -dsimp only [delta_Back.l2, delta_Back.k1, V.bin_geq, B.pv_some]
  cases n with
  | zero =>
    rw [show decide ((0 : Int) ≤ ((0 : Nat) : Int) - 1) = false by simp, B.cond_false]
    exact dn_same (hq o P hh hP ho)
  | succ k =>
    rw [show decide ((0 : Int) ≤ ((k + 1 : Nat) : Int) - 1) = true by simp, B.cond_true, show (((k + 1 : Nat) : Int) - 1) = (k : Int) by omega]
    obtain ⟨t, ht⟩ := get_lt (L := T) (k := k) (by omega)
    obtain ⟨kx, vx, wx, e1, e2, e3, e4, e5, e6, e7, e8, b1, b2, b3⟩ := turn_get (hx.mono ho.le) ht
    simp -dsimp only [e1, e3, e4, e5, e6, e7, e8, B.pv_some, B.ld_eq]
    refine turns_push s4 (t := ⟨t.Key, t.New, t.Old⟩) ho (by omega) b1 b3 b2 fun o' a' h' o1 => ?_
    simp -dsimp only [m1 k (by omega), B.pv_some]
    refine hY k _ _ (by omega) ⟨o', P ++ [(⟨t.Key, t.New, t.Old⟩, a')], by omega, rfl, ?_, o1⟩
    have hd : T.drop k = t :: T.drop (k + 1) := by
      obtain ⟨hk, e⟩ := List.getElem?_eq_some_iff.1 ht
      rw [List.drop_eq_getElem_cons hk, e]
    rw [hd, backR_snoc, List.map_append, hP]; rfl
end Go.Ab

/- What is proved: clear of a slice's end. No conditions. -/
set_option linter.unusedVariables false
namespace Go.Ab
theorem flat_take {α : Type} {n : Nat} : ∀ {css : List (List α)}, (∀ cs ∈ css, cs.length = n) → ∀ k : Nat, (css.take k).flatten = css.flatten.take (k * n)
  | [], _, k => by simp
  | c :: css, hl, 0 => by simp
  | c :: css, hl, k + 1 => by
    have hc : c.length = n := hl c (by simp)
    rw [List.take_succ_cons, List.flatten_cons, List.flatten_cons, flat_take (fun p hp => hl p (by simp [hp])) k, Nat.add_mul, Nat.one_mul, show k * n + n = c.length + k * n by omega, List.take_length_add_append]
section
variable {h h0 : AHeap} {es : Nat} {x : AVal} {L R : List (List AVal)} {l : List Ob}
/-- x[:k:k]. -/
theorem SlX.cut3 (hs : SlX h es x L R) {k : Nat} {j1 j2 j3 : IntKind} (hk : k ≤ L.length) :
    ∃ x', V.cut3 es x (.int j1 0) (.int j2 (k : Int)) (.int j3 (k : Int)) = some x' ∧ SlX h es x' (L.take k) [] ∧ foot x' = foot x := by
  rcases hs.at_ with ⟨e, e', e''⟩ | ⟨id, g, off, cp, bk, hh, k1, k1', k2, k3, k4, k5, k6⟩
  · subst e e'
    simp only [List.length_nil, Nat.le_zero_eq] at hk
    subst hk
    rcases e'' with rfl | rfl
    · exact ⟨.nils, rfl, ⟨by simp, .inl ⟨rfl, rfl, .inl rfl⟩⟩, rfl⟩
    · exact ⟨.sz, rfl, ⟨by simp, .inl ⟨rfl, rfl, .inr rfl⟩⟩, rfl⟩
  · subst k1
    refine ⟨.sl id g off k es k, ?_, ⟨fun p hp => hs.len p (List.mem_append_left _ (List.mem_of_mem_take (by simpa using hp))), .inr ⟨id, g, off, k, bk, hh, ?_, ?_, k2, k3, ?_, k5, ?_⟩⟩, rfl⟩
    · have h1 : (0 : Int) ≤ (k : Int) := by omega
      simp only [V.cut3, V.asNat, Int.le_refl, if_true, h1, Int.toNat_natCast, show (0 : Int).toNat = 0 from rfl]
      rw [if_pos ⟨by omega, Nat.le_refl _, by omega, trivial⟩]
      simp
    · simp; omega
    · simp; omega
    · have : k * es ≤ (L.length + R.length) * es := Nat.mul_le_mul_right _ (by omega)
      simp only [List.length_take, List.length_nil, Nat.min_eq_left hk, Nat.add_zero]
      omega
    · have : k * es ≤ (L.length + R.length) * es := Nat.mul_le_mul_right _ (by omega)
      simp only [List.length_take, List.length_nil, Nat.min_eq_left hk, Nat.add_zero, List.append_nil]
      have e1 : (L.take k).flatten = (L ++ R).flatten.take (k * es) := by
        rw [← flat_take hs.len, List.take_append_of_le_length hk]
      rw [e1, ← k6, List.take_take, Nat.min_eq_left this]
end
end Go.Ab
