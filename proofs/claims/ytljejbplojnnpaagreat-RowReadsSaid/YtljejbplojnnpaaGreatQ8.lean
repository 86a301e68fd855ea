/- What is proved: a part of the way to the statement: DbA. No conditions. -/
import Derived.Test.YtljejbplojnnpaaGreatQ6
import Derived.Lib.Bytealg
import Derived.Test.YtljejbplojnnpaaGreatQ7
import Derived.Test.YtljejbplojnnpaaGreatQ3
import Derived.KernelRfl
set_option linter.unusedVariables false
set_option linter.unusedSimpArgs false
namespace Go.Ab
variable {C : CSem} {N : zN}
def far : Nat := 140737488351232
def Bs (h : za) (x : AVal) (b : List UInt8) : Prop := (∃ R, SlX h 1 x (b.map bc) R) /\ b.length <= far
section
variable {h h' : za} {x : AVal} {b : List UInt8}
theorem Bs.mono (hb : Bs h x b) (hle : h.le h') : Bs h' x b := ⟨hb.1.imp fun _ r => r.mono hle, hb.2⟩
theorem Bs.zj (hb : Bs h x b) : V.zj x = some (.int .i64 b.length) := by
 obtain ⟨⟨R, r⟩, _⟩ := hb
 simpa using r.zj
theorem Bs.zi (hb : Bs h x b) : x.zi = true := hb.1.elim fun _ r => r.zi
end
theorem SlX.cutR {h : za} {es : Nat} {x : AVal} {L R S : List (List AVal)} (hs : SlX h es x L (R ++ S)) : SlX h es x L R := by
 refine ⟨fun p hp => hs.len p (by rcases List.mem_append.1 hp with h | h; exact List.mem_append_left _ h; exact List.mem_append_right _ (List.mem_append_left _ h)), ?_⟩
 rcases hs.at_ with ⟨e, e2, e'⟩ | ⟨id, g, off, cp, b, hi, h1, h1', h2, h3, h4, hh, h5⟩
 ·exact .inl ⟨e, (List.append_eq_nil_iff.1 e2).1, e'⟩
 ·have hl : ∀ p ∈ L ++ R, p.length = es := fun p hp => hs.len p (by rcases List.mem_append.1 hp with h | h; exact List.mem_append_left _ h; exact List.mem_append_right _ (List.mem_append_left _ h))
  have hfl := zk0 hl
  rw [List.length_append] at h1' h4 h5 hfl
  have hm : (L.length + R.length) * es <= (L.length + (R.length + S.length)) * es := Nat.mul_le_mul_right _ (by omega)
  refine .inr ⟨id, g, off, cp, b, hi, h1, by omega, h2, h3, by omega, hh, ?_⟩
  have : ((b.cells.drop off).take ((L.length + (R.length + S.length)) * es)).take ((L.length + R.length) * es) = (L ++ R).flatten := by
   rw [h5, <- List.append_assoc, List.flatten_append (L₁ := L ++ R), List.take_append_of_le_length (by omega), List.take_of_length_le (by omega)]
  rw [<- this, List.take_take, Nat.min_eq_left hm]
abbrev zth (h : za) (l : List Ob) : Prop := ∀ o ∈ l, o.at h
theorem zth.mono {h h' : za} {l : List Ob} (ha : zth h l) (hle : h.le h') : zth h' l := fun o hm => (ha o hm).keep fun _ _ _ e => hle _ _ e
structure DK (T Ad : Type) where
 n : Nat
 bytes : Nat
 z : List AVal
 pos : 0 < n
 small : bytes <= 1000
 zlen : z.length = n
 cells : T -> Ad -> List AVal
 len : ∀ t a, (cells t a).length = n
 at_ : za -> T -> Ad -> Prop
 mono : ∀ {h h' : za} {t : T} {a : Ad}, h.le h' -> at_ h t a -> at_ h' t a
 ok : T -> Prop
 at_ok : ∀ {h : za} {t : T} {a : Ad}, at_ h t a -> ok t
 obs : Bool -> T -> Ad -> List Ob
 zuu : ∀ {b : Bool} {h : za} {t : T} {a : Ad}, ok t -> zth h (obs b t a) -> at_ h t a
section
variable {T Ad : Type} (K : DK T Ad)
abbrev DK.cs (p : T × Ad) : List AVal := K.cells p.1 p.2
def DK.os (b : Bool) (P : List (T × Ad)) : List Ob := P.flatMap fun p => K.obs b p.1 p.2
def Dl (h : za) (x : AVal) (L : List T) : Prop := ∃ (P : List (T × Ad)) (R : List (List AVal)), P.map (·.1) = L /\ SlX h K.n x (P.map K.cs) R /\ ∀ p ∈ P, K.at_ h p.1 p.2
structure DEl (h : za) (x : AVal) (i : Nat) (t : T) (a : Ad) : Prop where
 idx : V.idxS K.n x (.int .i64 (i : Int)) = some (elp K.n x i 0)
 ldn : A.ldnv h (elp K.n x i 0) K.n = some (.agg (K.cells t a))
 fld : ∀ f o, V.fieldAddr o (elp K.n x i f) = some (elp K.n x i (f + o))
 ld : ∀ f, f < K.n -> A.ldv h (elp K.n x i f) = (K.cells t a)[f]?
 at_ : K.at_ h t a
variable {K} {h h' h0 : za} {x : AVal} {L M : List T}
theorem slX_el {h : za} {x : AVal} {P : List (T × Ad)} {R : List (List AVal)} (s : SlX h K.n x (P.map K.cs) R) (ha : ∀ p ∈ P, K.at_ h p.1 p.2) {i : Nat} {p : T × Ad} (hi : P[i]? = some p) : DEl K h x i p.1 p.2 := by
 have hc : (P.map K.cs)[i]? = some (K.cells p.1 p.2) := by rw [List.getElem?_map, hi]; rfl
 have hl : i < (P.map K.cs).length := (List.getElem?_eq_some_iff.1 hc).1
 exact ⟨s.idxN hl, s.elem hc, fun f o => s.zmk hl f o, fun f hf => s.ldv hc hf, ha p (List.mem_of_getElem? hi)⟩
theorem Dl.get (hd : Dl K h x L) {i : Nat} {t : T} (hi : L[i]? = some t) : ∃ a, DEl K h x i t a := by
 obtain ⟨P, R, rfl, s, ha⟩ := hd
 rw [List.getElem?_map] at hi
 obtain ⟨p, hp, rfl⟩ := Option.map_eq_some_iff.1 hi
 exact ⟨p.2, slX_el s ha hp⟩
theorem Dl.mono (hd : Dl K h x L) (hle : h.le h') : Dl K h' x L := by
 obtain ⟨P, R, e, s, ha⟩ := hd
 exact ⟨P, R, e, s.mono hle, fun p hp => K.mono hle (ha p hp)⟩
theorem Dl.zj (hd : Dl K h x L) : V.zj x = some (.int .i64 L.length) := by
 obtain ⟨P, R, rfl, s, ha⟩ := hd
 simpa using s.zj
theorem Dl.zi (hd : Dl K h x L) : x.zi = true := by
 obtain ⟨P, R, rfl, s, ha⟩ := hd
 exact s.zi
theorem Dl.nils (K : DK T Ad) (h : za) : Dl K h .nils [] := ⟨[], [], rfl, SlX.nils h K.n, fun _ h => by cases h⟩
theorem Dl.ok (hd : Dl K h x L) : ∀ t ∈ L, K.ok t := by
 obtain ⟨P, R, rfl, s, ha⟩ := hd
 intro t ht
 obtain ⟨p, hp, rfl⟩ := List.mem_map.1 ht
 exact K.at_ok (ha p hp)
theorem dl_of {P : List (T × Ad)} {R : List (List AVal)} {b : Bool} {l : List Ob} (hok : ∀ p ∈ P, K.ok p.1) (hl : zth h l) (h1 : .sl K.n x (P.map K.cs) R ∈ l) (h2 : ∀ o ∈ K.os b P, o ∈ l) : Dl K h x (P.map (·.1)) :=
 ⟨P, R, rfl, hl _ h1, fun p hp => K.zuu (hok p hp) fun o ho => hl o (h2 o (List.mem_flatMap.2 ⟨p, hp, ho⟩))⟩
theorem DK.zka (b : Bool) (P P' : List (T × Ad)) : K.os b (P ++ P') = K.os b P ++ K.os b P' := List.flatMap_append
theorem DK.zur (b : Bool) (p : T × Ad) : K.os b [p] = K.obs b p.1 p.2 := by simp [DK.os]
abbrev Df (K : DK T Ad) (h0 h : za) (x : AVal) (P : List (T × Ad)) : Prop := Owns h0 h (.sl K.n x (P.map K.cs) [] :: K.os false P)
theorem Df.dl {P : List (T × Ad)} (hd : Df K h0 h x P) (hok : ∀ p ∈ P, K.ok p.1) : Dl K h x (P.map (·.1)) := dl_of (b := false) hok hd.is (List.mem_cons_self ..) fun o ho => List.mem_cons_of_mem _ ho
def SameE (K : DK T Ad) [DecidableEq T] (C : CSem) (f : Nat) : Prop := ∀ (t u : T) (a b : Ad) (h : za) (Q : zQ), K.at_ h t a -> K.at_ h u b -> Q (.bool (decide (t = u))) h -> C f [.agg (K.cells t a), .agg (K.cells u b)] h Q
def OneE (K : DK T Ad) (b : Bool) (C : CSem) (f : Nat) : Prop := ∀ (t : T) (a : Ad) (h : za) (Q : zQ), K.at_ h t a -> (∀ a' h', Owns h h' (K.obs b t a') -> Q (.agg (K.cells t a')) h') -> C f [.agg (K.cells t a)] h Q
def KeptE (K : DK T Ad) [DecidableEq T] (C : CSem) (f : Nat) : Prop := ∀ (t u : T) (a b : Ad) (h : za) (Q : zQ), K.ok t -> zth h (K.obs true t a) -> K.at_ h u b -> Q (.bool (decide (t = u))) h -> C f [.agg (K.cells t a), .agg (K.cells u b)] h Q
def MarkE (K : DK T Ad) (mk : Int -> Int -> T) (C : CSem) (f : Nat) : Prop := ∀ (k i : Int) (h : za) (Q : zQ), (∀ a' h', Owns h h' (K.obs false (mk k i) a') -> Q (.agg (K.cells (mk k i) a')) h') -> C f [.int .i64 k, .int .i64 i] h Q
theorem zn7 (K : DK T Ad) (t : T) (a : Ad) : zcr [(0, some K.n, .agg (K.cells t a))] (repL 1 K.z) = some (K.cells t a) := by
 have hrep : repL 1 K.z = K.z := by unfold repL; split <;> simp_all
 have h1 := K.len t a
 rw [hrep]
 simp [h1, K.zlen]
@[simp] def sameD.k1 (C : CSem) (n f : Nat) (Q : zQ) (Y1 : zL) (v0 v1 v5 : AVal) (h : za) : Prop :=
 B.pv (V.zj v0) fun v13 =>
  B.pv (V.bin .lss v5 v13) fun v14 =>
  B.cond v14
  (B.pv (V.idxS n v0 v5) fun v19 =>
  B.ldn h v19 n fun v20 =>
  B.pv (V.idxS n v1 v5) fun v23 =>
  B.ldn h v23 n fun v24 =>
  B.call C f [v20, v24] h fun v25 h =>
  B.pv (V.un .not v25) fun v26 =>
  B.cond v26
  (Q (.bool false) h)
  (B.pv (V.bin .add v5 (.int .i64 1)) fun v16 =>
  Y1 [v16] h))
  (Q (.bool true) h)
@[simp] def sameD.l2 (C : CSem) (n f : Nat) (Q : zQ) (v0 v1 : AVal) : zG
 | [v5], h, Y1 => sameD.k1 C n f Q Y1 v0 v1 v5 h
 | _, _, _ => False
def sameD (C : CSem) (n f : Nat) (v0 v1 : AVal) (h : za) (Q : zQ) : Prop :=
 B.pv (V.zj v0) fun v7 =>
  B.pv (V.zj v1) fun v9 =>
  B.pv (V.bin .neq v7 v9) fun v10 =>
  B.cond v10
  (Q (.bool false) h)
  (ze (sameD.l2 C n f Q v0 v1) [(.int .i64 0)] h)
theorem sameD_spec [DecidableEq T] {f : Nat} (sf : SameE K C f) {y : AVal} {Q : zQ} (hx : Dl K h x L) (hy : Dl K h y M) (hlen : L.length < 4611686018427387904) (hq : Q (.bool (decide (L = M))) h) : sameD C K.n f x y h Q := by
 have hlx := hx.zj
 have hly := hy.zj
 simp -dsimp [sameD, hlx, hly]
 refine B.zd (fun hb => ?_) (fun hb => ?_) <;> simp -dsimp at hb ⊢
 ·rw [decide_eq_false fun e => hb (by rw [e])] at hq
  exact hq
 ·refine ze.intro (fun n vs hh => ∃ k, k + n = L.length /\ vs = [.int .i64 k] /\ hh = h /\ L.take k = M.take k) L.length ?_ ⟨0, by simp, by simp, rfl, by simp⟩
  rintro Y n vs _ ⟨k, hn, rfl, rfl, he⟩ hY
  simp -dsimp [hlx]
  refine B.zd (fun hc => ?_) (fun hc => ?_) <;> simp -dsimp at hc ⊢
  ·obtain ⟨w, hw⟩ := zc5 hc
   obtain ⟨u, hu⟩ := zc5 (L := M) (k := k) (by omega)
   obtain ⟨a, ea⟩ := hx.get hw
   obtain ⟨b, eb⟩ := hy.get hu
   simp -dsimp only [ea.idx, ea.ldn, eb.idx, eb.ldn, B.zf, B.zhn]
   refine sf _ _ _ _ _ _ ea.at_ eb.at_ ?_
   simp -dsimp only [V.zo1, B.zf]
   refine B.zd (fun hd => ?_) (fun hd => ?_) <;> simp -dsimp at hd ⊢
   ·rw [decide_eq_false fun e => by subst e; rw [hw] at hu; cases hu; exact hd rfl] at hq
    exact hq
   ·simp [zgt (n := k) (by omega)]
    refine hY (L.length - (k + 1)) _ _ (by omega) ⟨k + 1, by omega, by simp, rfl, ?_⟩
    rw [take_succ hw, take_succ hu, he, hd]
  ·rw [List.take_of_length_le (by omega), List.take_of_length_le (by omega)] at he
   rw [decide_eq_true he] at hq
   exact hq
def mks12 (mk : Int -> Int -> T) : List T := (List.range 12).map fun (i : Nat) => mk 1 (i : Int)
@[simp] def ztg.k1 (C : CSem) (n bytes fm : Nat) (z : List AVal) (Q : zQ) (Y1 : zL) (v0 v3 v6 : AVal) (h : za) : Prop :=
 B.pv (V.bin .lss v6 (.int .i64 12)) fun v27 =>
  B.cond v27
  (B.call C fm [(.int .i64 1), v6] h fun v32 h =>
  B.newO h (zcr [(0, some n, v32)] (repL 1 z)) fun i33 h =>
  B.appW h n bytes v3 (.sl i33 0 0 1 n 1) fun v34 h =>
  B.pv (V.bin .add v6 (.int .i64 1)) fun v29 =>
  Y1 [v34, v29] h)
  (B.pv (V.zj v0) fun v37 =>
  B.pv (V.zgo n v3 none (some v37)) fun v38 =>
  Q v38 h)
@[simp] def ztg.l2 (C : CSem) (n bytes fm : Nat) (z : List AVal) (Q : zQ) (v0 : AVal) : zG
 | [v3, v6], h, Y1 => ztg.k1 C n bytes fm z Q Y1 v0 v3 v6 h
 | _, _, _ => False
@[simp] def ztg.k3 (C : CSem) (n bytes fm fl : Nat) (z : List AVal) (Q : zQ) (Y2 : zL) (v0 v3 v4 : AVal) (h : za) : Prop :=
 B.pv (V.zj v0) fun v13 =>
  B.pv (V.bin .lss v4 v13) fun v14 =>
  B.cond v14
  (B.pv (V.idxS n v0 v4) fun v19 =>
  B.ldn h v19 n fun v20 =>
  B.call C fl [v20] h fun v21 h =>
  B.pv (V.setN 0 n v21 (.agg z)) fun c5 =>
  B.pv (V.zcd 0 n c5) fun v23 =>
  B.newO h (zcr [(0, some n, v23)] (repL 1 z)) fun i24 h =>
  B.appW h n bytes v3 (.sl i24 0 0 1 n 1) fun v25 h =>
  B.pv (V.bin .add v4 (.int .i64 1)) fun v16 =>
  Y2 [v25, v16] h)
  (ze (ztg.l2 C n bytes fm z Q v0) [v3, (.int .i64 0)] h)
@[simp] def ztg.l4 (C : CSem) (n bytes fm fl : Nat) (z : List AVal) (Q : zQ) (v0 : AVal) : zG
 | [v3, v4], h, Y2 => ztg.k3 C n bytes fm fl z Q Y2 v0 v3 v4 h
 | _, _, _ => False
def ztg (C : CSem) (n bytes fm fl : Nat) (z : List AVal) (v0 : AVal) (h : za) (Q : zQ) : Prop :=
 B.pv (V.zj v0) fun v8 =>
  B.pv (V.bin .add v8 (.int .i64 12)) fun v9 =>
  0 < n /\ B.mks h bytes (some z) (.int .i64 0) v9 fun v10 h =>
  ze (ztg.l4 C n bytes fm fl z Q v0) [v10, (.int .i64 0)] h
theorem zlc (K : DK T Ad) (t : T) (a : Ad) : V.setN 0 K.n (.agg (K.cells t a)) (.agg K.z) = some (.agg (K.cells t a)) := by
 simp [K.len t a, K.zlen]
theorem zk1 (K : DK T Ad) (t : T) (a : Ad) : V.zcd 0 K.n (.agg (K.cells t a)) = some (.agg (K.cells t a)) := by
 have := K.len t a
 simp [this]
 rw [<- this, List.take_length]
theorem lentD_spec {mk : Int -> Int -> T} {fm fl : Nat} (sm : MarkE K mk C fm) (sl : OneE K true C fl) {Q : zQ} (hx : Dl K h x L) (hlen : L.length <= 100000000)
  (hq : ∀ x' (P PM : List (T × Ad)) h', P.map (·.1) = L -> PM.map (·.1) = mks12 mk -> Owns h h' (.sl K.n x' (P.map K.cs) (PM.map K.cs) :: (K.os true P ++ K.os false PM)) -> Q x' h') : ztg C K.n K.bytes fm fl K.z x h Q := by
 have hlx := hx.zj
 have hmul : ∀ n : Nat, n <= 100000100 -> n * K.bytes <= 140737488355328 := fun n hn => by
  have := Nat.mul_le_mul hn K.small
  omega
 have e1 : IntKind.i64.wrap ((L.length : Int) + 12) = (L.length : Int) + 12 := wrap_i64 (by omega) (by omega)
 simp -dsimp [ztg, hlx, e1]
 refine ⟨K.pos, (Owns.start h).mks (es := K.n) K.zlen (by omega) (by omega) ?_ (by omega) fun y h1 ho => ?_⟩
 ·have := hmul (L.length + 12) (by omega)
  have e : ((L.length : Int) + 12) * K.bytes = ((L.length + 12) * K.bytes : Nat) := by simp
  rw [e]; omega
 refine ze.intro (fun n vs hh => ∃ (k : Nat) (y : AVal) (P : List (T × Ad)) (R : List (List AVal)), k + n = L.length /\ vs = [y, .int .i64 k] /\ P.map (·.1) = L.take k /\ Owns h hh (.sl K.n y (P.map K.cs) R :: K.os true P)) L.length ?_ ⟨0, y, [], _, by simp, by simp, by simp, by simpa [DK.os] using ho⟩
 rintro Y n vs hh ⟨k, y3, P, R3, hn, rfl, hP, ho3⟩ hY
 have hPl : P.length = k := by have := congrArg List.length hP; simp at this; omega
 simp -dsimp [hlx]
 refine B.zd (fun hc => ?_) (fun hc => ?_) <;> simp -dsimp at hc ⊢
 ·obtain ⟨w, hw⟩ := zc5 hc
  obtain ⟨a, ea⟩ := (hx.mono ho3.le).get hw
  simp -dsimp only [ea.idx, ea.ldn, B.zf, B.zhn]
  refine sl _ _ _ _ ea.at_ fun a' h4 o4 => ?_
  simp -dsimp only [zlc K _ a', zk1 K _ a', zn7 K _ a', B.zf]
  refine (ho3.join o4).push 0 rfl (K.len _ a') K.pos (by simp; exact hmul _ (by omega)) (by simp [maxLen]; omega) fun y5 h5 o5 _ => ?_
  simp -dsimp [zgt (n := k) (by omega)]
  refine hY (L.length - (k + 1)) _ _ (by omega) ⟨k + 1, y5, P ++ [(w, a')], [], by omega, by simp, ?_, ?_⟩
  ·rw [take_succ hw, List.map_append, hP]; rfl
  ·rw [DK.zka, DK.zur, List.map_append]
   simpa using o5
 ·have hk : k = L.length := by omega
  rw [hk, List.take_length] at hP
  refine ze.intro (fun n vs hh => ∃ (j : Nat) (y : AVal) (PM : List (T × Ad)) (R : List (List AVal)), j + n = 12 /\ vs = [y, .int .i64 j] /\ PM.map (·.1) = (List.range j).map (fun (i : Nat) => mk 1 (i : Int)) /\ Owns h hh (.sl K.n y (P.map K.cs ++ PM.map K.cs) R :: (K.os true P ++ K.os false PM))) 12 ?_
   ⟨0, y3, [], R3, by simp, by simp, by simp, by simpa [DK.os] using ho3⟩
  rintro Z n' vs h4 ⟨j, y4, PM, R4, hj, rfl, hPM, o4⟩ hZ
  have hMl : PM.length = j := by have := congrArg List.length hPM; simpa using this
  simp -dsimp only [ztg.l2, ztg.k1, V.znt, B.zf]
  refine B.zd (fun hd => ?_) (fun hd => ?_) <;> simp -dsimp at hd
  ·refine sm _ _ _ _ fun a' h5 o5 => ?_
   simp -dsimp only [zn7 K _ a']
   refine (o4.join o5).push 0 rfl (K.len _ a') K.pos (by simp; exact hmul _ (by omega)) (by simp [maxLen]; omega) fun y6 h6 o6 _ => ?_
   simp -dsimp [zgt (n := j) (by omega)]
   refine hZ (12 - (j + 1)) _ _ (by omega) ⟨j + 1, y6, PM ++ [(mk 1 j, a')], [], by omega, by simp, ?_, ?_⟩
   ·rw [List.map_append, hPM, List.range_succ, List.map_append]; rfl
   ·rw [DK.zka, DK.zur, List.map_append]
    simpa using o6
  ·have hj12 : j = 12 := by omega
   subst hj12
   obtain ⟨x', e2, e3, e4⟩ := (o4.slAt 0 rfl).slice K.pos (lo := 0) (hi := L.length) (a := none) (b := some (.int .i64 L.length)) (.inl ⟨rfl, rfl⟩) (.inr ⟨_, rfl⟩) (by omega) (by simp; omega)
   simp -dsimp only [hlx, e2, B.zf]
   have h1 : ((P.map K.cs ++ PM.map K.cs ++ R4).take L.length).drop 0 = P.map K.cs := by
    rw [List.append_assoc, List.take_append_of_le_length (by simp; omega), List.take_of_length_le (by simp; omega), List.drop_zero]
   have h2 : (P.map K.cs ++ PM.map K.cs ++ R4).drop L.length = PM.map K.cs ++ R4 := by
    rw [List.append_assoc, List.drop_append_of_le_length (by simp; omega), List.drop_of_length_le (by simp; omega), List.nil_append]
   rw [h1, h2] at e3
   have e5 : SlX h4 K.n x' (P.map K.cs) (PM.map K.cs) := e3.cutR
   refine hq x' P PM h4 hP hPM ?_
   exact o4.turn 0 rfl (o' := .sl K.n x' (P.map K.cs) (PM.map K.cs)) e5 (fun id b hf hb => o4.zl1 0 rfl id b (by show foot y4 = some id; rw [<- e4]; exact hf) hb) (fun j b hb _ => hb) (.inl e4)
def zvk (K : DK T Ad) (mk : Int -> Int -> T) (h : za) (x : AVal) (L : List T) : Prop :=
 ∃ P PM : List (T × Ad), P.map (·.1) = L /\ PM.map (·.1) = mks12 mk /\ SlX h K.n x (P.map K.cs) (PM.map K.cs) /\ zth h (K.os true P) /\ (∀ p ∈ P, K.ok p.1) /\ ∀ p ∈ PM, K.at_ h p.1 p.2
theorem zvk.mono {mk : Int -> Int -> T} (hd : zvk K mk h x L) (hle : h.le h') : zvk K mk h' x L := by
 obtain ⟨P, PM, e1, e2, s, a1, a0, a2⟩ := hd
 exact ⟨P, PM, e1, e2, s.mono hle, a1.mono hle, a0, fun p hp => K.mono hle (a2 p hp)⟩
theorem zvk.dl {mk : Int -> Int -> T} (hd : zvk K mk h x L) : Dl K h x L := by
 obtain ⟨P, PM, e1, e2, s, a1, a0, a2⟩ := hd
 exact ⟨P, _, e1, s, fun p hp => K.zuu (a0 p hp) fun o ho => a1 o (List.mem_flatMap.2 ⟨p, hp, ho⟩)⟩
theorem mks12_ok {mk : Int -> Int -> T} {PM : List (T × Ad)} (hmk : ∀ k i, K.ok (mk k i)) (e2 : PM.map (·.1) = mks12 mk) : ∀ p ∈ PM, K.ok p.1 := fun p hp => by
 have : p.1 ∈ PM.map (·.1) := List.mem_map.2 ⟨p, hp, rfl⟩
 rw [e2, mks12, List.mem_map] at this
 obtain ⟨i, _, e⟩ := this
 rw [<- e]; exact hmk _ _
theorem zvk.of {mk : Int -> Int -> T} {P PM : List (T × Ad)} (hmk : ∀ k i, K.ok (mk k i)) (hok : ∀ t ∈ L, K.ok t) (e1 : P.map (·.1) = L) (e2 : PM.map (·.1) = mks12 mk) (ho : Owns h0 h (.sl K.n x (P.map K.cs) (PM.map K.cs) :: (K.os true P ++ K.os false PM))) : zvk K mk h x L :=
 ⟨P, PM, e1, e2, ho.slAt 0 rfl, fun o hm => ho.is o (List.mem_cons_of_mem _ (List.mem_append_left _ hm)), fun p hp => hok _ (e1 ▸ List.mem_map.2 ⟨p, hp, rfl⟩), fun p hp => K.zuu (mks12_ok hmk e2 p hp) fun o hm => ho.is o (List.mem_cons_of_mem _ (List.mem_append_right _ (List.mem_flatMap.2 ⟨p, hp, hm⟩)))⟩
@[simp] def keptD.k1 (C : CSem) (n fk fm fs : Nat) (Q : zQ) (Y1 : zL) (v1 v5 v6 : AVal) (h : za) : Prop :=
 B.pv (V.zj v5) fun v19 =>
  B.pv (V.bin .lss v6 v19) fun v20 =>
  B.cond v20
  (B.pv (V.zj v1) fun v25 =>
  B.pv (V.bin .lss v6 v25) fun v26 =>
  B.gd h v26 true (fun K => K v5 h) fun v28 h =>
  B.gd h v26 true (fun K => K v6 h) fun v29 h =>
  B.gd h v26 true (fun K => B.pv (V.idxS n v28 v29) fun v => K v h) fun v30 h =>
  B.gd h v26 true (fun K => B.ldn h v30 n fun v => K v h) fun v31 h =>
  B.gd h v26 true (fun K => K v1 h) fun v32 h =>
  B.gd h v26 true (fun K => K v6 h) fun v33 h =>
  B.gd h v26 true (fun K => B.pv (V.idxS n v32 v33) fun v => K v h) fun v34 h =>
  B.gd h v26 true (fun K => B.ldn h v34 n fun v => K v h) fun v35 h =>
  B.gd h v26 true (fun K => B.call C fk [v31, v35] h K) fun v36 h =>
  B.gd h v26 true (fun K => B.pv (V.un .not v36) fun v => K v h) fun v37 h =>
  B.pick v26 v37 (.bool false) fun v38 =>
  B.gd h v38 false (fun K => K v6 h) fun v40 h =>
  B.gd h v38 false (fun K => K v1 h) fun v41 h =>
  B.gd h v38 false (fun K => B.pv (V.zj v41) fun v => K v h) fun v42 h =>
  B.gd h v38 false (fun K => B.pv (V.bin .geq v40 v42) fun v => K v h) fun v43 h =>
  B.gd h v38 false (fun K => K v43 h) fun v44 h =>
  B.gd h v44 true (fun K => K v5 h) fun v45 h =>
  B.gd h v44 true (fun K => K v6 h) fun v46 h =>
  B.gd h v44 true (fun K => B.pv (V.idxS n v45 v46) fun v => K v h) fun v47 h =>
  B.gd h v44 true (fun K => B.ldn h v47 n fun v => K v h) fun v48 h =>
  B.gd h v44 true (fun K => K v6 h) fun v49 h =>
  B.gd h v44 true (fun K => K v1 h) fun v50 h =>
  B.gd h v44 true (fun K => B.pv (V.zj v50) fun v => K v h) fun v51 h =>
  B.gd h v44 true (fun K => B.pv (V.bin .sub v49 v51) fun v => K v h) fun v52 h =>
  B.gd h v44 true (fun K => B.call C fm [(.int .i64 1), v52] h (B.zk5 h [(v47, some n)] K)) fun v53 h =>
  B.gd h v44 true (fun K => B.call C fs [v48, v53] h K) fun v54 h =>
  B.gd h v44 true (fun K => B.pv (V.un .not v54) fun v => K v h) fun v55 h =>
  B.gd h v38 false (fun K => B.pick v44 v55 (.bool false) fun v => K v h) fun v56 h =>
  B.pick v38 (.bool true) v56 fun v57 =>
  B.cond v57
  (Q (.bool false) h)
  (B.pv (V.bin .add v6 (.int .i64 1)) fun v22 =>
  Y1 [v22] h))
  (Q (.bool true) h)
@[simp] def keptD.l2 (C : CSem) (n fk fm fs : Nat) (Q : zQ) (v1 v5 : AVal) : zG
 | [v6], h, Y1 => keptD.k1 C n fk fm fs Q Y1 v1 v5 v6 h
 | _, _, _ => False
@[simp] def keptD.k3 (C : CSem) (n fk fm fs : Nat) (Q : zQ) (v0 v1 : AVal) (h : za) : Prop :=
 B.pv (V.zj v1) fun v14 =>
  B.pv (V.bin .add v14 (.int .i64 12)) fun v15 =>
  B.pv (V.zgo n v0 none (some v15)) fun v16 =>
  ze (keptD.l2 C n fk fm fs Q v1 v16) [(.int .i64 0)] h
def keptD (C : CSem) (n fk fm fs : Nat) (v0 v1 : AVal) (h : za) (Q : zQ) : Prop :=
 B.pv (V.zj v0) fun v8 =>
  B.pv (V.zj v1) fun v10 =>
  B.pv (V.bin .neq v8 v10) fun v11 =>
  B.cond v11
  (Q (.bool false) h)
  (keptD.k3 C n fk fm fs Q v0 v1 h)
theorem keptD_spec [DecidableEq T] {mk : Int -> Int -> T} {fk fm fs : Nat} (hmk : ∀ k i, K.ok (mk k i)) (sk : KeptE K C fk) (sm : MarkE K mk C fm) (ss : SameE K C fs) {y : AVal} {Q : zQ} (hx : zvk K mk h x L) (hy : Dl K h y M) (hlen : L.length <= 100000000)
  (hq : ∀ h', h.le h' -> Q (.bool (decide (L = M))) h') : keptD C K.n fk fm fs x y h Q := by
 have hlx := hx.dl.zj
 have hly := hy.zj
 simp -dsimp [keptD, hlx, hly]
 refine B.zd (fun hb => ?_) (fun hb => ?_) <;> simp -dsimp at hb ⊢
 ·have hq := hq h (za.le_refl h)
  rw [decide_eq_false fun e => hb (by rw [e])] at hq
  exact hq
 ·obtain ⟨P, PM, rfl, hPM, s, a1, a0, a2⟩ := hx
  have hMl : PM.length = 12 := by have := congrArg List.length hPM; simpa [mks12] using this
  rw [List.length_map] at hb hlen
  have e1 : IntKind.i64.wrap ((M.length : Int) + 12) = ((M.length + 12 : Nat) : Int) := by rw [wrap_i64 (by omega) (by omega)]; omega
  obtain ⟨z, e2, e3, e4⟩ := s.slice K.pos (lo := 0) (hi := M.length + 12) (a := none) (b := some (.int .i64 ((M.length + 12 : Nat) : Int))) (.inl ⟨rfl, rfl⟩) (.inr ⟨_, rfl⟩) (by omega) (by simp; omega)
  have h1 : ((P.map K.cs ++ PM.map K.cs).take (M.length + 12)).drop 0 = (P ++ PM).map K.cs := by rw [List.drop_zero, List.take_of_length_le, List.map_append]; simp; omega
  rw [h1] at e3
  have hlz := e3.zj
  simp only [List.length_map, List.length_append, hMl] at hlz
  simp only [hly, V.zej, e1, e2, B.zf]
  refine ze.intro (fun n vs hh => ∃ k, k + n = P.length + 12 /\ vs = [.int .i64 k] /\ h.le hh /\ (P.map (·.1)).take k = M.take k) (P.length + 12) ?_ ⟨0, by simp, by simp, za.le_refl h, by simp⟩
  rintro Y n vs hh ⟨k, hn, rfl, hle, he⟩ hY
  have e3 := e3.mono hle
  simp -dsimp [hlz]
  refine B.zd (fun hc => ?_) (fun hc => ?_) <;> simp -dsimp at hc ⊢
  ·by_cases hkL : k < P.length
   ·obtain ⟨p, hp⟩ := zc5 hkL
    have hkM : k < M.length := by omega
    obtain ⟨u, hu⟩ := zc5 hkM
    obtain ⟨b, eb⟩ := (hy.mono hle).get hu
    have hpz : ((P ++ PM).map K.cs)[k]? = some (K.cells p.1 p.2) := by rw [List.getElem?_map, List.getElem?_append_left hkL, hp]; rfl
    have hkz : k < ((P ++ PM).map K.cs).length := by simp; omega
    have e5 := e3.elem hpz
    have e6 := e3.idxN (k := .i64) hkz
    have hw : (P.map (·.1))[k]? = some p.1 := by rw [List.getElem?_map, hp]; rfl
    simp -dsimp only [hly, V.znt, show ((k : Int) < (M.length : Int)) by omega, decide_true, B.gd_t, B.gdb_pure, B.zhk, znk, e6, e5, eb.idx, eb.ldn, B.zf, B.zhn]
    refine sk _ _ _ _ _ _ (a0 p (List.mem_of_getElem? hp)) (zth.mono (l := K.obs true p.1 p.2) (fun o ho => a1 o (List.mem_flatMap.2 ⟨p, List.mem_of_getElem? hp, ho⟩)) hle) eb.at_ ?_
    simp -dsimp only [B.gd_t, B.zhk, V.zo1, B.zf, B.zuj]
    by_cases hwu : p.1 = u
    ·simp -dsimp only [hwu, decide_true, Bool.not_true, B.gd_f, Bool.not_false, B.zhk, hly, V.zsj, show ¬ ((M.length : Int) <= (k : Int)) by omega, decide_false, B.gd_t, B.zu3, B.pick_f, B.zf, B.cond_false, V.zej, zgt (n := k) (by omega)]
     refine hY (P.length + 12 - (k + 1)) _ _ (by omega) ⟨k + 1, by omega, rfl, hle, ?_⟩
     rw [take_succ hw, take_succ hu, he, hwu]
    ·simp -dsimp only [hwu, decide_false, Bool.not_false, B.gd_f, Bool.not_true, B.zu3, B.zuj, B.cond_true, B.gd_tup]
     have hq := hq hh hle
     rw [decide_eq_false fun e => by rw [e, hu] at hw; cases hw; exact hwu rfl] at hq
     exact hq
   ·have hkM : ¬ k < M.length := by omega
    obtain ⟨p, hp⟩ := zc5 (L := PM) (k := k - P.length) (by omega)
    have hpz : ((P ++ PM).map K.cs)[k]? = some (K.cells p.1 p.2) := by rw [List.getElem?_map, List.getElem?_append_right (by omega), hp]; rfl
    have hkz : k < ((P ++ PM).map K.cs).length := by simp; omega
    have e5 := e3.elem hpz
    have e6 := e3.idxN (k := .i64) hkz
    have hm : p.1 = mk 1 ((k - M.length : Nat) : Int) := by
     have : (PM.map (·.1))[k - P.length]? = some p.1 := by rw [List.getElem?_map, hp]; rfl
     rw [hPM, mks12, List.getElem?_map, List.getElem?_range (by omega)] at this
     simp only [Option.map_some, Option.some.injEq] at this
     rw [<- this]; congr 2; omega
    have e7 : IntKind.i64.wrap ((k : Int) - M.length) = ((k - M.length : Nat) : Int) := by rw [wrap_i64 (by omega) (by omega)]; omega
    simp -dsimp only [hly, V.znt, show ¬ ((k : Int) < (M.length : Int)) by omega, decide_false, B.gd_t, B.gdb_pure, B.zu3, gv_false, B.pick_f, B.gd_f, Bool.not_false, B.zhk, znk, V.zsj, show ((M.length : Int) <= (k : Int)) by omega, decide_true, e6, e5, V.zi3, e7, B.zf, B.zhn]
    refine sm _ _ _ _ fun a' h5 o5 => ⟨?_, ?_⟩
    ·intro q hq
     rw [List.mem_singleton.1 hq]
     exact ⟨_, e5, (e3.mono o5.le).elem hpz⟩
    ·simp -dsimp only [znk, B.gd_t, B.zhk, B.zf, decide_true]
     refine ss _ _ _ _ _ _ (K.mono (za.le_trans hle o5.le) (a2 p (List.mem_of_getElem? hp))) (K.zuu (hmk _ _) o5.is) ?_
     simp -dsimp only [hm, znk, decide_true, decide_false, V.zo1, Bool.not_true, Bool.not_false, B.gd_t, B.gd_f, B.zhk, B.zuj, B.pick_f, B.zf, B.cond_false, V.zej, zgt (n := k) (by omega)]
     refine hY (P.length + 12 - (k + 1)) _ _ (by omega) ⟨k + 1, by omega, rfl, za.le_trans hle o5.le, ?_⟩
     rw [List.take_of_length_le (by simp; omega), List.take_of_length_le (by omega)] at he ⊢
     exact he
  ·have hq := hq hh hle
   rw [List.take_of_length_le (by simp; omega), List.take_of_length_le (by omega)] at he
   rw [decide_eq_true he] at hq
   exact hq
end
end Go.Ab
namespace Go.Ab
variable {C : CSem} {N : zN}
structure Itm where
 Code : List UInt8
 Life : Int
 zek : List Part
 zd0 : List (List UInt8)
 deriving DecidableEq
def few : Nat := 100000000
abbrev Itm.ok (t : Itm) : Prop := t.zek.length <= few /\ t.zd0.length <= few
def partsOb (b : Bool) (x : AVal) (l : List Part) : Ob := .sl 2 x (l.map Part.cs) (bif b then marksPart else [])
def textsOb (b : Bool) (x : AVal) (l : List (List UInt8)) : Ob := .sl 1 x (l.map tc) (bif b then marksText else [])
def ze3 : DK Itm (AVal × AVal) where
 n := 4
 bytes := 72
 z := [.str [], .int .i64 0, .nils, .nils]
 pos := by omega
 small := by omega
 zlen := rfl
 cells t a := [.str t.Code, .int .i64 t.Life, a.1, a.2]
 len _ _ := rfl
 at_ h t a := (∃ R, SlX h 2 a.1 (t.zek.map Part.cs) R) /\ (∃ R, SlX h 1 a.2 (t.zd0.map tc) R) /\ t.ok
 mono hle ha := ⟨ha.1.imp fun _ r => r.mono hle, ha.2.1.imp fun _ r => r.mono hle, ha.2.2⟩
 ok := Itm.ok
 at_ok ha := ha.2.2
 obs b t a := [partsOb b a.1 t.zek, textsOb b a.2 t.zd0]
 zuu {b h t a} hk ha := ⟨⟨_, show SlX h 2 a.1 (t.zek.map Part.cs) (bif b then marksPart else []) from ha (partsOb b a.1 t.zek) (by simp)⟩, ⟨_, show SlX h 1 a.2 (t.zd0.map tc) (bif b then marksText else []) from ha (textsOb b a.2 t.zd0) (by simp)⟩, hk⟩
theorem Itm.eq_iff (t u : Itm) : t = u ↔ ((t.Code = u.Code /\ t.Life = u.Life) /\ t.zek = u.zek) /\ t.zd0 = u.zd0 := by
 cases t; cases u; simp [Itm.mk.injEq, and_assoc]
def zdd.Spec (C : CSem) (N : zN) : Prop := SameE ze3 C (N 110)
theorem zdd.spec (i : zdd.Imp C N) (s1 : zcv.Spec C N) (s2 : zcu.Spec C N) : zdd.Spec C N := by
 intro t u a b h Q ha hb hq
 obtain ⟨⟨R1, a1⟩, ⟨R2, a2⟩, a3, a4⟩ : (∃ R, SlX h 2 a.1 (t.zek.map Part.cs) R) /\ (∃ R, SlX h 1 a.2 (t.zd0.map tc) R) /\ t.ok := ha
 obtain ⟨⟨S1, b1⟩, ⟨S2, b2⟩, b3, b4⟩ : (∃ R, SlX h 2 b.1 (u.zek.map Part.cs) R) /\ (∃ R, SlX h 1 b.2 (u.zd0.map tc) R) /\ u.ok := hb
 unfold few at a3 a4
 apply i
 simp +contextual -dsimp [ze3]
 refine B.zeo (v := .bool (decide (t.zek = u.zek))) (fun _ Q hq => s1 _ _ _ _ _ _ _ _ a1 b1 (by omega) hq) ?_
 simp +contextual -dsimp
 refine B.zeo (v := .bool (decide (t.zd0 = u.zd0))) (fun _ Q hq => s2 _ _ _ _ _ _ _ _ a2 b2 (by omega) hq) ?_
 simp -dsimp
 refine zk ?_
 have : decide (t = u) = (((decide (t.Code = u.Code) && decide (t.Life = u.Life)) && decide (t.zek = u.zek)) && decide (t.zd0 = u.zd0)) := by
  rw [Bool.eq_iff_iff]
  simp only [decide_eq_true_eq, Bool.and_eq_true]
  exact Itm.eq_iff t u
 rw [this] at hq
 exact hq
def zq8 (k i : Int) : Itm := ⟨[], mark k i, [], []⟩
theorem markItem_ok (k i : Int) : ze3.ok (zq8 k i) := ⟨by simp [zq8], by simp [zq8]⟩
def zdl.Spec (C : CSem) (N : zN) : Prop := MarkE ze3 zq8 C (N 109)
theorem zdl.spec (i : zdl.Imp C N) (s1 : zfh.Spec C N) : zdl.Spec C N := by
 intro k j h Q hq
 apply i
 simp -dsimp
 refine s1 _ _ _ _ ?_
 simp -dsimp
 exact zk (hq (.nils, .nils) _ (by simpa [ze3, zq8, partsOb, textsOb] using ((Owns.start h).nils 2).nils 1))
def zb5.Spec (C : CSem) (N : zN) : Prop := ∀ (x y : AVal) (L M : List Itm) (h : za) (Q : zQ), Dl ze3 h x L -> Dl ze3 h y M -> L.length < 4611686018427387904 -> Q (.bool (decide (L = M))) h -> C (N 134) [x, y] h Q
theorem zb5.spec (i : zb5.Imp C N) (s1 : zdd.Spec C N) : zb5.Spec C N := fun x y L M h Q hx hy hl hq =>
 i x y h Q (sameD_spec (K := ze3) s1 hx hy hl (zk hq))
end Go.Ab
namespace Go.Ab
variable {C : CSem} {N : zN}
structure Row where
 Key : List UInt8
 Value : List UInt8
 deriving DecidableEq
def bOb (b : Bool) (x : AVal) (s : List UInt8) : Ob := .sl 1 x (s.map bc) (bif b then marksByte else [])
theorem bOb_at {b : Bool} {h : za} {x : AVal} {s : List UInt8} (hs : s.length <= far) (ha : (bOb b x s).at h) : Bs h x s := ⟨⟨_, ha⟩, hs⟩
abbrev Row.ok (r : Row) : Prop := r.Key.length <= far /\ r.Value.length <= far
def rowK : DK Row (AVal × AVal) where
 n := 2
 bytes := 48
 z := [.nils, .nils]
 pos := by omega
 small := by omega
 zlen := rfl
 cells _ a := [a.1, a.2]
 len _ _ := rfl
 at_ h t a := Bs h a.1 t.Key /\ Bs h a.2 t.Value
 mono hle ha := ⟨ha.1.mono hle, ha.2.mono hle⟩
 ok := Row.ok
 at_ok ha := ⟨ha.1.2, ha.2.2⟩
 obs b t a := [bOb b a.1 t.Key, bOb b a.2 t.Value]
 zuu {b h t a} hk ha := ⟨bOb_at (b := b) hk.1 (ha _ (by simp)), bOb_at (b := b) hk.2 (ha _ (by simp))⟩
def zcq.zoy (C : CSem) (N : zN) : Prop := ∀ (x y : AVal) (s t : List UInt8) (h : za) (Q : zQ), Bs h x s -> Bs h y t -> Q (.bool (decide (s = t))) h -> C (N 34) [x, y] h Q
theorem zcq.spl (i : zcq.Imp C N) : zcq.zoy C N := fun x y s t h Q ⟨⟨R, hx⟩, hs⟩ ⟨⟨S, hy⟩, ht⟩ hq =>
 i x y h Q (zvx bS hx hy (by unfold far at hs; omega) (zk hq))
def zcx.zoy (C : CSem) (N : zN) : Prop := ∀ (x : AVal) (s : List UInt8) (h : za) (Q : zQ), Bs h x s -> (∀ x' h', Owns h h' [bOb true x' s] -> Q x' h') -> C (N 37) [x] h Q
theorem zcx.spl (i : zcx.Imp C N) (s1 : zc2.Spec C N) : zcx.zoy C N := fun x s h Q ⟨⟨R, hx⟩, hs⟩ hq =>
 i x h Q (lentS_specL bS (z := .int .u8 0) (m := 1) (mk := zjs 1) (s1 1) hx (by unfold far at hs; omega) (by unfold far at hs; omega) fun x' h' ho => zk (hq x' h' ho))
def zck.zoy (C : CSem) (N : zN) : Prop := ∀ (x y : AVal) (s t : List UInt8) (h : za) (Q : zQ), s.length <= far -> (bOb true x s).at h -> Bs h y t -> Q (.bool (decide (s = t))) h -> C (N 39) [x, y] h Q
theorem zck.spl (i : zck.Imp C N) (s1 : zc2.Spec C N) : zck.zoy C N := fun x y s t h Q hs hx ⟨⟨R, hy⟩, ht⟩ hq =>
 i x y h Q (keptS_specL bS (m := 1) (mk := zjs 1) (s1 1) hx hy (by unfold far at hs; omega) (zk hq))
def zdx.Spec (C : CSem) (N : zN) : Prop := SameE rowK C (N 118)
theorem zdx.spec (i : zdx.Imp C N) (s1 : zcq.zoy C N) : zdx.Spec C N := by
 intro t u a b h Q ha hb hq
 obtain ⟨a1, a2⟩ : Bs h a.1 t.Key /\ Bs h a.2 t.Value := ha
 obtain ⟨b1, b2⟩ : Bs h b.1 u.Key /\ Bs h b.2 u.Value := hb
 apply i
 simp -dsimp [rowK]
 refine s1 _ _ _ _ _ _ a1 b1 ?_
 simp +contextual -dsimp
 refine B.zeo (v := .bool (decide (t.Value = u.Value))) (fun _ Q hq => s1 _ _ _ _ _ _ a2 b2 hq) ?_
 simp -dsimp
 refine zk ?_
 have : decide (t = u) = (decide (t.Key = u.Key) && decide (t.Value = u.Value)) := by
  cases t; cases u; simp [Row.mk.injEq]
 rw [this] at hq
 exact hq
def zec.Spec (C : CSem) (N : zN) : Prop := OneE rowK true C (N 271)
theorem zec.spec (i : zec.Imp C N) (s1 : zcx.zoy C N) : zec.Spec C N := by
 intro t a h Q ha hq
 obtain ⟨a1, a2⟩ : Bs h a.1 t.Key /\ Bs h a.2 t.Value := ha
 apply i
 simp -dsimp [rowK]
 refine s1 _ _ _ _ a1 fun x1 h1 o1 => ?_
 simp -dsimp [((o1.is _ (List.mem_singleton_self _)) : (bOb true x1 t.Key).at h1).zi]
 refine s1 _ _ _ _ (a2.mono o1.le) fun x2 h2 o2 => ?_
 simp -dsimp [((o2.is _ (List.mem_singleton_self _)) : (bOb true x2 t.Value).at h2).zi]
 exact zk (hq (x1, x2) h2 (o1.join o2))
def zed.Spec (C : CSem) (N : zN) : Prop := KeptE rowK C (N 280)
theorem zed.spec (i : zed.Imp C N) (s0 : zdx.Spec C N) (s1 : zck.zoy C N) : zed.Spec C N := by
 intro t u a b h Q hok ha hb hq
 apply i
 have ha' := rowK.zuu hok ha
 simp -dsimp [rowK]
 refine s0 t u a b h _ ha' hb ?_
 simp +contextual -dsimp
 refine B.zeo (v := .bool (decide (t.Key = u.Key))) (fun _ Q hq => s1 _ _ _ _ _ _ hok.1 (ha _ (by simp [rowK])) hb.1 hq) ?_
 simp +contextual -dsimp
 refine B.zeo (v := .bool (decide (t.Value = u.Value))) (fun _ Q hq => s1 _ _ _ _ _ _ hok.2 (ha _ (by simp [rowK])) hb.2 hq) ?_
 simp -dsimp
 refine zk ?_
 have : decide (t = u) = (decide (t = u) && decide (t.Key = u.Key) && decide (t.Value = u.Value)) := by
  by_cases h : t = u
  ·subst h; simp
  ·simp [h]
 rw [this] at hq
 exact hq
def zni (k i : Int) : Row := ⟨[zjs k i], []⟩
theorem zv4 (k i : Int) : rowK.ok (zni k i) := ⟨by simp [zni, far], by simp [zni]⟩
def zdp.Spec (C : CSem) (N : zN) : Prop := MarkE rowK zni C (N 117)
theorem zdp.spec (i : zdp.Imp C N) (s1 : zc2.Spec C N) : zdp.Spec C N := by
 intro k j h Q hq
 apply i
 simp -dsimp
 refine s1 _ _ _ _ ?_
 simp -dsimp
 intro id hid
 simp -dsimp
 have o := (Owns.start h).zmz hid (n := 1) (cp := 1) (es := 1) (cs := [.int .u8 ((zjs k j).toNat : Int)]) (L := [zjs k j].map bc) (R := []) (by simp) rfl (by simp) rfl
 exact zk (hq (.sl id 0 0 1 1 1, .nils) _ (by simpa [rowK, zni, bOb] using o.nils 1))
def zb7.Spec (C : CSem) (N : zN) : Prop := ∀ (x y : AVal) (L M : List Row) (h : za) (Q : zQ), zvk rowK zni h x L -> Dl rowK h y M -> L.length <= 100000000 ->
 Q (.bool (decide (L = M))) h -> C (N 258) [x, y] h Q
theorem zb7.spec (i : zb7.Imp C N) (s1 : zed.Spec C N) (s2 : zdp.Spec C N) (s3 : zdx.Spec C N) : zb7.Spec C N := fun x y L M h Q hx hy hl hq =>
 i x y h Q (keptD_spec (K := rowK) zv4 s1 s2 s3 hx hy hl fun h' hle => zrk hle hq)
end Go.Ab
namespace Go.Ab
abbrev zkf : List UInt8 -> List UInt8 -> Bool := Op.bytesLess
theorem lessB_cc (a b : UInt8) (as1 bs : List UInt8) : zkf (a :: as1) (b :: bs) = (decide (a < b) || (a == b && zkf as1 bs)) := rfl
theorem u8_tri (a b : UInt8) : a < b \/ a = b \/ b < a := by
 simp only [UInt8.lt_iff_toNat_lt, <- UInt8.toNat_inj]; omega
abbrev cmpB := Lib.compareBytes
theorem cmpB_spec : ∀ a b : List UInt8, cmpB a b = if zkf a b then -1 else if zkf b a then 1 else 0
 | [], [] => rfl
 | [], _ :: _ => rfl
 | _ :: _, [] => rfl
 | a :: as1, b :: bs => by
  have ih := cmpB_spec as1 bs
  show (if a < b then -1 else if b < a then 1 else cmpB as1 bs) = _
  rw [ih, lessB_cc, lessB_cc]
  rcases u8_tri a b with h | rfl | h
  ·simp [h]
  ·have hi : ¬ a < a := by simp only [UInt8.lt_iff_toNat_lt]; omega
   simp
  ·have h1 : ¬ a < b := by simp only [UInt8.lt_iff_toNat_lt] at *; omega
   have h2 : a ≠ b := fun e => by subst e; exact h1 h
   have h3 : (a == b) = false := by simp [h2]
   simp [h, h1, h3]
theorem cmpB_neg {a b : List UInt8} : cmpB a b < 0 ↔ zkf a b = true := by
 rw [cmpB_spec]; split
 ·simp [*]
 ·split <;> simp [*]
section
variable {V : Type}
variable (E : V -> List V)
variable {E}
variable {K : List V} {D : V -> Option Nat}
end
def zul (x : Itm) : List (List UInt8) := x.zek.map Part.Item
end Go.Ab
namespace Go.Ab
variable {C : CSem} {N : zN}
def zs4.right (w : zs4) : Bool := decide (0 <= w.From) && decide (w.From <= w.zrq) && decide (w.zrq <= 4001)
def zdg.Spec (C : CSem) (N : zN) : Prop := ∀ (a b : Int) (h : za) (Q : zQ), Q (.bool (zs4.right ⟨a, b⟩)) h -> C (N 5) [.agg [.int .i64 a, .int .i64 b]] h Q
theorem zdg.spec (i : zdg.Imp C N) : zdg.Spec C N := by
 intro a b h Q hq
 apply i
 simp +contextual -dsimp
 exact zk hq
end Go.Ab
namespace Go.Ab
variable {C : CSem} {N : zN}
def zfy (l : Lot) : Bool := decide (0 < l.Id) && zbm l.Item && zs4.right ⟨l.From, l.zrq⟩ && decide (l.From < l.zrq) && decide (0 < l.Qty) && decide (l.Qty <= 1073741824)
def zqm (u : Use) : Bool := decide (0 <= u.Want) && decide (1 <= u.Lot) && decide (1 <= u.Qty)
def ze5.Spec (C : CSem) (N : zN) : Prop := ∀ (l : Lot) (h : za) (Q : zQ), Q (.bool (zfy l)) h -> C (N 52) [.agg l.cs] h Q
theorem ze5.spec (i : ze5.Imp C N) (s1 : zcg.Spec C N) (s2 : zdg.Spec C N) : ze5.Spec C N := by
 intro l h Q hq
 apply i
 simp +contextual -dsimp
 refine B.zeo (fun _ _ hq => s1 _ _ _ hq) ?_
 simp +contextual -dsimp
 refine B.zeo (fun _ _ hq => s2 _ _ _ _ hq) ?_
 simp +contextual -dsimp
 simp only [zfy, Bool.and_assoc] at hq
 simp only [Bool.and_assoc]
 exact zk hq
def zd8.Spec (C : CSem) (N : zN) : Prop := ∀ (l : Lot) (h : za) (Q : zQ), Q (.bool (zfy l)) h -> C (N 60) [.agg l.cs] h Q
theorem zd8.spec (i : zd8.Imp C N) (s1 : zb4.Spec C N) : zd8.Spec C N := by
 intro l h Q hq
 apply i
 simp +contextual -dsimp
 refine B.zeo (fun _ _ hq => s1 _ _ _ hq) ?_
 simp +contextual -dsimp
 refine zk ?_
 have : ∀ a b : Bool, a = b -> Q (.bool b) h -> Q (.bool a) h := fun a b e => by rw [e]; exact id
 refine this _ _ ?_ hq
 rw [Bool.eq_iff_iff]
 cases hc : zbm l.Item <;> simp [zfy, zs4.right, hc]
 omega
def be (n : Int) : Nat -> List UInt8
 | 0 => []
 | k + 1 => byt (n.fdiv (2 ^ (8 * k))) :: be n k
@[simp] theorem zhi (n : Int) : ∀ k, (be n k).length = k
 | 0 => rfl
 | k + 1 => by simp [be, zhi n k]
def ze7.Spec (C : CSem) (N : zN) : Prop := ∀ (h0 h : za) (x : AVal) (D : List UInt8) (n : Int) (k : Nat) (Q : zQ), Owns h0 h [.sl 1 x (D.map bc) []] -> k <= 8 -> D.length <= 100000000 ->
 (∀ x' h', Owns h0 h' [.sl 1 x' ((D ++ be n k).map bc) []] -> Q x' h') -> C (N 50) [x, .int .i64 n, .int .i64 (k : Int)] h Q
theorem ze7.spec (i : ze7.Imp C N) : ze7.Spec C N := by
 intro h0 h x D n k Q ho hk hD hq
 apply i
 have e0 : IntKind.i64.wrap ((k : Int) - 1) = (k : Int) - 1 := wrap_i64 (by omega) (by omega)
 simp +contextual -dsimp [e0]
 refine ze.intro (fun t vs hh => ∃ (x : AVal) (pre : List UInt8), t <= k /\ vs = [x, .int .i64 ((t : Int) - 1)] /\ pre ++ be n t = be n k /\ Owns h0 hh [.sl 1 x ((D ++ pre).map bc) []]) k ?_ ⟨x, [], Nat.le_refl _, rfl, rfl, by simpa using ho⟩
 rintro Y t vs hh ⟨x, pre, ht, rfl, he, ho⟩ hY
 simp +contextual -dsimp
 have hpl := congrArg List.length he
 simp only [List.length_append, zhi] at hpl
 refine B.zd (fun hb => ?_) (fun hb => ?_) <;> simp at hb
 ·obtain ⟨t, rfl⟩ : ∃ u, t = u + 1 := ⟨t - 1, by omega⟩
  have e1 : ((t + 1 : Nat) : Int) - 1 = (t : Int) := by omega
  have e2 : IntKind.i64.wrap (8 * (t : Int)) = 8 * (t : Int) := wrap_i64 (by omega) (by omega)
  have e3 : V.bin .shr (.int .i64 n) (.int .i64 (8 * (t : Int))) = some (.int .i64 (n.fdiv (2 ^ (8 * t)))) := by
   rw [zsi (by omega) (by simp [IntKind.bits]; omega)]
   congr 4
  have e4 : IntKind.i64.wrap ((t : Int) - 1) = (t : Int) - 1 := wrap_i64 (by omega) (by omega)
  rw [e1]
  simp +contextual -dsimp [e2, e3, zj1]
  refine ho.push 0 rfl rfl (by omega) (by simp; omega) (by simp [maxLen]; omega) fun x' h' ho' _ => ?_
  simp +contextual -dsimp [e4]
  refine hY t _ _ (by omega) ⟨x', pre ++ [byt (n.fdiv (2 ^ (8 * t)))], by omega, rfl, ?_, ?_⟩
  ·rw [<- he, be, List.append_assoc]; rfl
  ·rw [<- List.append_assoc, List.map_append]; exact ho'
 ·have : t = 0 := by omega
  subst this
  rw [be, List.append_nil] at he
  subst he
  exact zk (hq _ _ ho)
theorem fdiv_u64 (n : Int) : ∀ t : Nat, t < 8 -> ((n % 18446744073709551616).fdiv (2 ^ (8 * t))) % 256 = (n.fdiv (2 ^ (8 * t))) % 256
 | 0, _ => by rw [Int.fdiv_eq_ediv_of_nonneg _ (by omega), Int.fdiv_eq_ediv_of_nonneg _ (by omega)]; omega
 | 1, _ => by rw [Int.fdiv_eq_ediv_of_nonneg _ (by omega), Int.fdiv_eq_ediv_of_nonneg _ (by omega)]; omega
 | 2, _ => by rw [Int.fdiv_eq_ediv_of_nonneg _ (by omega), Int.fdiv_eq_ediv_of_nonneg _ (by omega)]; omega
 | 3, _ => by rw [Int.fdiv_eq_ediv_of_nonneg _ (by omega), Int.fdiv_eq_ediv_of_nonneg _ (by omega)]; omega
 | 4, _ => by rw [Int.fdiv_eq_ediv_of_nonneg _ (by omega), Int.fdiv_eq_ediv_of_nonneg _ (by omega)]; omega
 | 5, _ => by rw [Int.fdiv_eq_ediv_of_nonneg _ (by omega), Int.fdiv_eq_ediv_of_nonneg _ (by omega)]; omega
 | 6, _ => by rw [Int.fdiv_eq_ediv_of_nonneg _ (by omega), Int.fdiv_eq_ediv_of_nonneg _ (by omega)]; omega
 | 7, _ => by rw [Int.fdiv_eq_ediv_of_nonneg _ (by omega), Int.fdiv_eq_ediv_of_nonneg _ (by omega)]; omega
 | t + 8, h => by omega
theorem zrp {f : Nat} {args : List AVal} {h0 h : za} {out : AVal} {D M : List UInt8} {K : zQ} (s : ∀ Q : zQ, (∀ x' h', Owns h h' [.sl 1 x' (M.map bc) []] -> Q x' h') -> C f args h Q)
  (ho : Owns h0 h [.sl 1 out (D.map bc) []]) (hl : D.length + M.length <= 100000000) (hK : ∀ out' h', Owns h0 h' [.sl 1 out' ((D ++ M).map bc) []] -> K out' h') : C f args h (fun v h => B.appW h 1 1 out v K) := by
 refine s _ fun x' h' hn => ?_
 refine (ho.join hn).appW 0 rfl (hn.slAt 0 rfl) (by omega) (by simp; omega) (by simp [maxLen]; omega) fun out' h2 ho2 _ => hK out' h2 ?_
 rw [List.map_append]
 exact ho2.sub (by simp)
theorem byteLit {h0 h : za} {out : AVal} {D : List UInt8} {b : UInt8} {K : zQ} (ho : Owns h0 h [.sl 1 out (D.map bc) []]) (hl : D.length <= 100000000) (hK : ∀ out' h', Owns h0 h' [.sl 1 out' ((D ++ [b]).map bc) []] -> K out' h') :
  B.newO h (some [.int .u8 (b.toNat : Int)]) fun i h => B.appW h 1 1 out (.sl i 0 0 1 1 1) K := by
 refine ho.push 0 rfl rfl (by omega) (by simp; omega) (by simp [maxLen]; omega) fun x' h' ho' _ => hK x' h' ?_
 rw [List.map_append]; exact ho'
def zgd.bare (t : zgd) : Bool := decide (t.Id = 0) && decide (t.Day = 0) && decide (t.Code = []) && decide (t.State = 0) && decide (t.Lots = []) && decide (t.Uses = [])
def zgd.head (t : zgd) : Bool := !(decide (t.Id < 0) || decide (t.Day < -1) || decide (4000 < t.Day) || !decide (t.Code = []) && !zbm t.Code || decide (3 < (t.State.toNat : Int)) || decide (300 < (t.Lots.length : Int)) || decide (2000 < (t.Uses.length : Int)))
def zgd.full (t : zgd) : Bool := t.head && t.Lots.all zfy && t.Uses.all zqm
def zgi (t : zgd) : Bool := decide (0 <= t.Err) && decide (t.Err <= 999) && if 0 < t.Err then t.bare else t.full
theorem u8_zero (b : UInt8) : decide ((b.toNat : Int) = 0) = decide (b = 0) := u8_eq b 0
theorem ztv {T : Type} {p : T -> Bool} {L : List T} {k : Nat} {w : T} (h : (L.take k).all p = true) (hw : L[k]? = some w) (hp : p w = true) : (L.take (k + 1)).all p = true := by
 rw [take_succ hw, List.all_append, h]; simp [hp]
theorem all_bad {T : Type} {p : T -> Bool} {L : List T} {k : Nat} {w : T} (hw : L[k]? = some w) (hp : p w = false) : L.all p = false := by
 rw [<- Bool.not_eq_true, List.all_eq_true]
 intro h
 rw [h w (List.mem_of_getElem? hw)] at hp; cases hp
def zb3.Spec (C : CSem) (N : zN) : Prop := ∀ (t : zgd) (x y : AVal) (h : za) (Q : zQ), zvj h t x y -> t.Lots.length <= 100000000 -> t.Uses.length <= 100000000 -> Q (.bool (zgi t)) h -> C (N 29) [.agg (t.cs x y)] h Q
theorem zb3.spec (i : zb3.Imp C N) (s1 : ze5.Spec C N) (s2 : zcg.Spec C N) : zb3.Spec C N := by
 intro t x y h Q ht hl1 hl2 hq
 obtain ⟨⟨R, hx⟩, ⟨S, hy⟩⟩ := ht
 apply i
 have hlx := hx.zj
 have hly := hy.zj
 rw [List.length_map] at hlx hly
 have hw : IntKind.i64.wrap ((t.Lots.length : Int) + t.Uses.length) = (t.Lots.length : Int) + t.Uses.length := wrap_i64 (by omega) (by omega)
 simp +contextual -dsimp [hlx, hly, hw]
 refine B.zd (fun h1 => ?_) (fun h1 => ?_)
 ·have : zgi t = false := by simp at h1; simp [zgi]; omega
  rw [this] at hq
  exact zk hq
 ·simp +contextual -dsimp
  refine B.zd (fun h2 => ?_) (fun h2 => ?_)
  ·have : ∀ a : Bool, zgi t = a -> dn Q (.bool a) h := fun a e => by rw [<- e]; exact zk hq
   refine this _ ?_
   simp at h1 h2
   simp only [zgi, h2, if_true, zgd.bare, decide_eq_true h1.1, decide_eq_true h1.2, Bool.true_and]
   rw [Bool.eq_iff_iff]
   simp [<- u8_zero]
   have e : (t.Lots = [] /\ t.Uses = []) ↔ ((t.Lots.length : Int) + t.Uses.length = 0) := by rw [<- List.length_eq_zero_iff, <- List.length_eq_zero_iff]; omega
   rw [and_assoc, e]
  ·simp +contextual -dsimp
   refine B.zeo (fun _ _ hq => s2 _ _ _ hq) ?_
   simp +contextual -dsimp [hlx, hly]
   have hfull : zgi t = t.full := by
    simp at h1 h2
    simp only [zgi]
    rw [if_neg (by omega), decide_eq_true h1.1, decide_eq_true h1.2]; rfl
   rw [hfull] at hq
   refine B.zd (fun h3 => ?_) (fun h3 => ?_)
   ·rw [show t.full = false by simp only [zgd.full, zgd.head, h3]; rfl] at hq
    exact zk hq
   ·have hhead : t.head = true := by simp only [zgd.head, h3]; rfl
    simp +contextual -dsimp [hlx, hly]
    refine ze.intro (fun n vs hh => ∃ k : Nat, k + n = t.Lots.length /\ vs = [.int .i64 k] /\ hh = h /\ (t.Lots.take k).all zfy = true) t.Lots.length ?_ ⟨0, by simp, by simp, rfl, by simp⟩
    rintro Y n vs hh ⟨k, hn, rfl, rfl, hall⟩ hY
    simp +contextual -dsimp
    refine B.zd (fun h4 => ?_) (fun h4 => ?_) <;> simp at h4
    ·obtain ⟨w, hw⟩ := zc5 h4
     have hk : k < (t.Lots.map Lot.cs).length := by simpa using h4
     simp +contextual -dsimp [hx.idxN hk, hx.elem (get_map hw)]
     refine s1 w _ _ ?_
     simp +contextual -dsimp
     refine B.zd (fun h5 => ?_) (fun h5 => ?_)
     ·rw [show t.full = false by simp only [zgd.full, all_bad hw (show zfy w = false by simpa using h5), Bool.and_false, Bool.false_and]] at hq
      exact zk hq
     ·simp +contextual -dsimp [zgt (n := k) (by omega)]
      exact hY (n - 1) _ _ (by omega) ⟨k + 1, by omega, by simp, rfl, ztv hall hw (by simpa using h5)⟩
    ·have hkl : k = t.Lots.length := by omega
     subst hkl
     rw [List.take_length] at hall
     simp +contextual -dsimp [hlx, hly]
     refine ze.intro (fun n vs h2 => ∃ k : Nat, k + n = t.Uses.length /\ vs = [.int .i64 k] /\ h2 = hh /\ (t.Uses.take k).all zqm = true) t.Uses.length ?_ ⟨0, by simp, by simp, rfl, by simp⟩
     rintro Z n vs h2 ⟨k, hn, rfl, rfl, hall2⟩ hZ
     simp +contextual -dsimp
     refine B.zd (fun h4 => ?_) (fun h4 => ?_) <;> simp at h4
     ·obtain ⟨w, hw⟩ := zc5 h4
      have hk : k < (t.Uses.map Use.cs).length := by simpa using h4
      simp +contextual -dsimp [hy.idxN hk, hy.elem (get_map hw)]
      refine B.zd (fun h5 => ?_) (fun h5 => ?_)
      ·rw [show t.full = false by simp only [zgd.full, all_bad hw (show zqm w = false by simp at h5; simp [zqm]; omega), Bool.and_false]] at hq
       exact zk hq
      ·simp +contextual -dsimp [zgt (n := k) (by omega)]
       exact hZ (n - 1) _ _ (by omega) ⟨k + 1, by omega, by simp, rfl, ztv hall2 hw (by simp at h5; simp [zqm]; omega)⟩
     ·have hkl : k = t.Uses.length := by omega
      subst hkl
      rw [List.take_length] at hall2
      rw [show t.full = true by simp only [zgd.full, hhead, hall, hall2]; rfl] at hq
      exact zk hq
end Go.Ab
namespace Go.Ab
variable {C : CSem} {N : zN}
def zl3 (l : Lot) : List UInt8 := be l.Id 8 ++ zdr l.Item ++ be l.From 2 ++ be l.zrq 2 ++ be l.Qty 8 ++ be (bif l.zkn then 1 else 0) 1
def znz (u : Use) : List UInt8 := be u.Want 8 ++ be u.Lot 8 ++ be u.Qty 8
def zqn (t : zgd) : List UInt8 := be t.Err 2 ++ be t.Id 8 ++ be (t.Day + 1) 2 ++ zdr t.Code ++ [t.State] ++ be t.Lots.length 2 ++ t.Lots.flatMap zl3 ++ be t.Uses.length 2 ++ t.Uses.flatMap znz
def zgl (t : zgd) : List UInt8 × Int := if zgi t = false then ([], 2) else if 0 < t.Err then (be t.Err 2, 0) else (zqn t, 0)
theorem lotBytes_len (l : Lot) : (zl3 l).length <= 34 := by
 have := zdq l.Item
 simp [zl3]; omega
theorem useBytes_len (u : Use) : (znz u).length = 24 := by simp [znz]
theorem zg2 {T : Type} {f : T -> List UInt8} {m : Nat} (hf : ∀ x, (f x).length <= m) : ∀ L : List T, (L.flatMap f).length <= L.length * m
 | [] => by simp
 | a :: r => by
  have := zg2 hf r
  have := hf a
  simp only [List.flatMap_cons, List.length_append, List.length_cons, Nat.add_mul, Nat.one_mul]; omega
theorem lots_len (L : List Lot) (k : Nat) (h : L.length <= 300) : ((L.take k).flatMap zl3).length <= 10200 := by
 have h1 := zg2 lotBytes_len (L.take k)
 have h2 : (L.take k).length <= 300 := by simp; omega
 have := Nat.mul_le_mul_right 34 h2
 omega
theorem uses_len (L : List Use) (k : Nat) (h : L.length <= 2000) : ((L.take k).flatMap znz).length <= 48000 := by
 have h1 := zg2 (fun u => Nat.le_of_eq (useBytes_len u)) (L.take k)
 have h2 : (L.take k).length <= 2000 := by simp; omega
 have := Nat.mul_le_mul_right 24 h2
 omega
theorem flat_succ {T : Type} {f : T -> List UInt8} {L : List T} {k : Nat} {w : T} (hw : L[k]? = some w) : (L.take (k + 1)).flatMap f = (L.take k).flatMap f ++ f w := by
 rw [take_succ hw, List.flatMap_append]; simp
theorem zm1 {t : zgd} (h : zgi t = true) : 0 <= t.Err /\ t.Err <= 999 /\ (¬ 0 < t.Err -> t.head = true /\ t.Lots.length <= 300 /\ t.Uses.length <= 2000 /\ -1 <= t.Day /\ t.Day <= 4000) := by
 simp only [zgi, Bool.and_eq_true, decide_eq_true_eq] at h
 refine ⟨h.1.1, h.1.2, fun h2 => ?_⟩
 have h3 := h.2
 rw [if_neg h2] at h3
 simp only [zgd.full, Bool.and_eq_true] at h3
 have h4 := h3.1.1
 refine ⟨h4, ?_⟩
 simp [zgd.head] at h4
 omega
def zcb.Spec (C : CSem) (N : zN) : Prop := ∀ (t : zgd) (x y : AVal) (h : za) (Q : zQ), zvj h t x y -> t.Lots.length <= 100000000 -> t.Uses.length <= 100000000 ->
 (∀ x' h', Owns h h' [.sl 1 x' ((zgl t).1.map bc) []] -> Q (.tup [x', .int .i64 (zgl t).2]) h') -> C (N 28) [.agg (t.cs x y)] h Q
theorem zcb.spec (i : zcb.Imp C N) (s1 : zb3.Spec C N) (s2 : ze7.Spec C N) (s3 : zfe.Spec C N) : zcb.Spec C N := by
 intro t x y h Q ht hl1 hl2 hq
 apply i
 simp +contextual -dsimp
 refine s1 t x y _ _ ht hl1 hl2 ?_
 simp +contextual -dsimp
 refine B.zd (fun hr => ?_) (fun hr => ?_) <;> simp at hr
 ·rw [show zgl t = ([], 2) by simp [zgl, hr]] at hq
  exact zk (hq _ _ ((Owns.start h).nils 1))
 ·obtain ⟨f1, f2, f3⟩ := zm1 hr
  have hc := zdq t.Code
  simp +contextual -dsimp
  refine s2 h h _ [] t.Err 2 _ ((Owns.start h).nils 1) (by omega) (by simp) fun o1 h1 ho1 => ?_
  simp +contextual -dsimp
  refine B.zd (fun he => ?_) (fun he => ?_) <;> simp at he
  ·rw [show zgl t = (be t.Err 2, 0) by simp [zgl, hr, he]] at hq
   exact zk (hq _ _ ho1)
  ·obtain ⟨f4, f5, f6, f7, f8⟩ := f3 (by omega)
   rw [show zgl t = (zqn t, 0) by simp [zgl, hr]; omega] at hq
   have ed : IntKind.i64.wrap (t.Day + 1) = t.Day + 1 := wrap_i64 (by omega) (by omega)
   simp +contextual -dsimp
   refine s2 h h1 _ _ t.Id 8 _ ho1 (by omega) (by simp) fun o2 h2 ho2 => ?_
   simp +contextual -dsimp [ed]
   refine s2 h h2 _ _ (t.Day + 1) 2 _ ho2 (by omega) (by simp) fun o3 h3 ho3 => ?_
   simp +contextual -dsimp
   refine zrp (s3 t.Code h3) ho3 (by simp only [List.length_append, zhi, List.length_cons, List.length_nil]; omega) fun o4 h4 ho4 => ?_
   simp +contextual -dsimp
   refine byteLit ho4 (by simp only [List.length_append, zhi, List.length_cons, List.length_nil]; omega) fun o5 h5 ho5 => ?_
   obtain ⟨⟨R, hx⟩, ⟨S, hy⟩⟩ := ht.mono ho5.le
   have hlx := hx.zj
   rw [List.length_map] at hlx
   simp +contextual -dsimp [hlx]
   refine s2 h h5 _ _ t.Lots.length 2 _ ho5 (by omega) (by simp only [List.length_append, zhi, List.length_cons, List.length_nil]; omega) fun o6 h6 ho6 => ?_
   simp +contextual -dsimp [hlx]
   simp only [List.nil_append, List.append_assoc] at ho6
   refine ze.intro (fun n vs hh => ∃ (k : Nat) (o : AVal), k + n = t.Lots.length /\ vs = [o, .int .i64 k] /\ Owns h hh [.sl 1 o ((be t.Err 2 ++ (be t.Id 8 ++ (be (t.Day + 1) 2 ++ (zdr t.Code ++ ([t.State] ++ (be t.Lots.length 2 ++ (t.Lots.take k).flatMap zl3)))))).map bc) []]) t.Lots.length ?_ ⟨0, o6, by simp, by simp, by simpa using ho6⟩
   rintro Y n vs hh ⟨k, o, hn, rfl, ho⟩ hY
   obtain ⟨⟨R, hx⟩, ⟨S, hy⟩⟩ := ht.mono ho.le
   have hlx := hx.zj
   have hly := hy.zj
   rw [List.length_map] at hlx hly
   have hll := lots_len t.Lots k f5
   simp +contextual -dsimp
   refine B.zd (fun hb => ?_) (fun hb => ?_) <;> simp at hb
   ·obtain ⟨w, hw⟩ := zc5 hb
    have hk : k < (t.Lots.map Lot.cs).length := by simpa using hb
    have hcw := zdq w.Item
    simp +contextual -dsimp [hx.idxN hk, hx.elem (get_map hw)]
    refine s2 h hh _ _ w.Id 8 _ ho (by omega) (by simp only [List.length_append, zhi, List.length_cons, List.length_nil]; omega) fun o1 h1 ho1 => ?_
    simp +contextual -dsimp
    refine zrp (s3 w.Item h1) ho1 (by simp only [List.length_append, zhi, List.length_cons, List.length_nil]; omega) fun o2 h2 ho2 => ?_
    simp +contextual -dsimp
    refine s2 h h2 _ _ w.From 2 _ ho2 (by omega) (by simp only [List.length_append, zhi, List.length_cons, List.length_nil]; omega) fun o3 h3 ho3 => ?_
    simp +contextual -dsimp
    refine s2 h h3 _ _ w.zrq 2 _ ho3 (by omega) (by simp only [List.length_append, zhi, List.length_cons, List.length_nil]; omega) fun o4 h4 ho4 => ?_
    simp +contextual -dsimp
    refine s2 h h4 _ _ w.Qty 8 _ ho4 (by omega) (by simp only [List.length_append, zhi, List.length_cons, List.length_nil]; omega) fun o5 h5 ho5 => ?_
    simp +contextual -dsimp
    have fin : ∀ v : Int, v = (bif w.zkn then 1 else 0) -> C (N 50) [o5, .int .i64 v, .int .i64 1] h5 fun v78 h => B.pv (V.bin .add (.int .i64 (k : Int)) (.int .i64 1)) fun v79 => Y [v78, v79] h := fun v hv => by
     refine s2 h h5 _ _ v 1 _ ho5 (by omega) (by simp only [List.length_append, zhi, List.length_cons, List.length_nil]; omega) fun o6 h6 ho6 => ?_
     simp +contextual -dsimp [zgt (n := k) (by omega)]
     refine hY (n - 1) _ _ (by omega) ⟨k + 1, o6, by omega, by simp, ?_⟩
     rw [flat_succ hw]
     simp only [zl3, <- hv, List.append_assoc] at ho6 ⊢
     exact ho6
    refine B.zd (fun ha => ?_) (fun ha => ?_)
    ·exact fin 1 (by rw [ha]; rfl)
    ·exact fin 0 (by rw [ha]; rfl)
   ·have hkl : k = t.Lots.length := by omega
    subst hkl
    rw [List.take_length] at ho hll
    simp +contextual -dsimp [hly]
    refine s2 h hh _ _ t.Uses.length 2 _ ho (by omega) (by simp only [List.length_append, zhi, List.length_cons, List.length_nil]; omega) fun o1 h1 ho1 => ?_
    simp +contextual -dsimp [hly]
    simp only [List.append_assoc] at ho1
    refine ze.intro (fun n vs hh => ∃ (k : Nat) (o : AVal), k + n = t.Uses.length /\ vs = [o, .int .i64 k] /\ Owns h hh [.sl 1 o ((be t.Err 2 ++ (be t.Id 8 ++ (be (t.Day + 1) 2 ++ (zdr t.Code ++ ([t.State] ++ (be t.Lots.length 2 ++ (t.Lots.flatMap zl3 ++ (be t.Uses.length 2 ++ (t.Uses.take k).flatMap znz)))))))).map bc) []]) t.Uses.length ?_ ⟨0, o1, by simp, by simp, by simpa using ho1⟩
    rintro Z n vs h2 ⟨k, o, hn, rfl, ho⟩ hZ
    obtain ⟨⟨R, hx⟩, ⟨S, hy⟩⟩ := ht.mono ho.le
    have hul := uses_len t.Uses k f6
    simp +contextual -dsimp
    refine B.zd (fun hb => ?_) (fun hb => ?_) <;> simp at hb
    ·obtain ⟨w, hw⟩ := zc5 hb
     have hk : k < (t.Uses.map Use.cs).length := by simpa using hb
     simp +contextual -dsimp [hy.idxN hk, hy.elem (get_map hw)]
     refine s2 h h2 _ _ w.Want 8 _ ho (by omega) (by simp only [List.length_append, zhi, List.length_cons, List.length_nil]; omega) fun o1 h1 ho1 => ?_
     simp +contextual -dsimp
     refine s2 h h1 _ _ w.Lot 8 _ ho1 (by omega) (by simp only [List.length_append, zhi, List.length_cons, List.length_nil]; omega) fun o2 h2 ho2 => ?_
     simp +contextual -dsimp
     refine s2 h h2 _ _ w.Qty 8 _ ho2 (by omega) (by simp only [List.length_append, zhi, List.length_cons, List.length_nil]; omega) fun o3 h3 ho3 => ?_
     simp +contextual -dsimp [zgt (n := k) (by omega)]
     refine hZ (n - 1) _ _ (by omega) ⟨k + 1, o3, by omega, by simp, ?_⟩
     rw [flat_succ hw]
     simp only [znz, List.append_assoc] at ho3 ⊢
     exact ho3
    ·have hkl : k = t.Uses.length := by omega
     subst hkl
     rw [List.take_length] at ho
     refine zk (hq _ _ ?_)
     simp only [zqn, List.append_assoc]
     exact ho
end Go.Ab
namespace Go.Ab
variable {C : CSem} {N : zN}
theorem add1 {a : Nat} (h : a < 4611686018427387904) : V.bin .add (.int .i64 (a : Int)) (.int .i64 1) = some (.int .i64 ((a + 1 : Nat) : Int)) := by
 rw [V.zej, wrap_i64 (by omega) (by omega)]; simp
theorem sub1 {a : Nat} (h : 1 <= a) (ha : a < 4611686018427387904) : V.bin .sub (.int .i64 (a : Int)) (.int .i64 1) = some (.int .i64 ((a - 1 : Nat) : Int)) := by
 rw [V.zi3, wrap_i64 (by omega) (by omega)]; congr 2; omega
theorem lssN {a b : Nat} : V.bin .lss (.int .i64 (a : Int)) (.int .i64 (b : Int)) = some (.bool (decide (a < b))) := by rw [V.znt]; congr 3; exact propext (by omega)
theorem leqN {a b : Nat} : V.bin .leq (.int .i64 (a : Int)) (.int .i64 (b : Int)) = some (.bool (decide (a <= b))) := by rw [V.bin_leq]; congr 3; exact propext (by omega)
section
variable {E : zfj} {X : Type} {cs : X -> List AVal} {v : X -> AVal} {h0 h : za} {x : AVal} {G : List X} {R : List (List AVal)}
end
section
variable {E : zfj} {T : Type} {cs : T -> List AVal} {v : T -> AVal} {c : T -> T -> Int} {h0 h : za} {x f : AVal} {R : List (List AVal)} {Q : zQ}
end
end Go.Ab
namespace Go.Ab
theorem flat_take {α : Type} {n : Nat} : ∀ {css : List (List α)}, (∀ cs ∈ css, cs.length = n) -> ∀ k : Nat, (css.take k).flatten = css.flatten.take (k * n)
 | [], _, k => by simp
 | c :: css, hl, 0 => by simp
 | c :: css, hl, k + 1 => by
  have hc : c.length = n := hl c (by simp)
  rw [List.take_succ_cons, List.flatten_cons, List.flatten_cons, flat_take (fun p hp => hl p (by simp [hp])) k, Nat.add_mul, Nat.one_mul, show k * n + n = c.length + k * n by omega, List.take_length_add_append]
theorem flat_drop {α : Type} {n : Nat} : ∀ {css : List (List α)}, (∀ cs ∈ css, cs.length = n) -> ∀ k : Nat, (css.drop k).flatten = css.flatten.drop (k * n)
 | [], _, k => by simp
 | c :: css, hl, 0 => by simp
 | c :: css, hl, k + 1 => by
  have hc : c.length = n := hl c (by simp)
  rw [List.drop_succ_cons, List.flatten_cons, flat_drop (fun p hp => hl p (by simp [hp])) k, Nat.add_mul, Nat.one_mul, show k * n + n = c.length + k * n by omega, List.drop_length_add_append]
section
variable {h h0 : za} {es : Nat} {x : AVal} {L R : List (List AVal)} {l : List Ob}
end
end Go.Ab
namespace Go.Ab
variable {C : CSem} {N : zN}
def zev (l : Line) : Bool :=
 decide (0 < l.Id) && zbm l.Item && decide (0 < l.Qty /\ l.Qty <= 1073741824 /\ 0 <= l.zvr /\ l.zvr <= 4000 /\ 0 <= l.Rank /\ l.Rank <= 99 /\ (1 : Int) <= l.State.toNat /\ (l.State.toNat : Int) <= 3) &&
 bif decide (l.Day = -1) then decide (l.Code = []) && !decide ((l.State.toNat : Int) = 2) else decide (0 <= l.Day /\ l.Day <= 4000) && zbm l.Code && !decide ((l.State.toNat : Int) = 3)
def zes.Spec (C : CSem) (N : zN) : Prop := ∀ (l : Line) (h : za) (Q : zQ), Q (.bool (zev l)) h -> C (N 179) [.agg l.cs] h Q
theorem zes.spec (i : zes.Imp C N) (s1 : zcg.Spec C N) : zes.Spec C N := by
 intro l h Q hq
 apply i
 have e : ∀ b, zev l = b -> dn Q (.bool b) h := fun b hb => by rw [<- hb]; exact zk hq
 simp +contextual -dsimp
 refine B.zeo (fun _ _ hq => s1 _ _ _ hq) ?_
 simp +contextual -dsimp
 refine B.zd (fun h1 => ?_) (fun h1 => ?_)
 ·refine e _ ?_
  simp at h1
  unfold zev
  cases hc : zbm l.Item
  ·simp
  ·simp [hc] at h1 ⊢; omega
 simp +contextual -dsimp
 refine B.zd (fun h2 => ?_) (fun h2 => ?_)
 ·refine e _ ?_
  simp at h2
  unfold zev
  simp; omega
 simp +contextual -dsimp
 have e2 : ∀ b, (bif decide (l.Day = -1) then decide (l.Code = []) && !decide ((l.State.toNat : Int) = 2) else decide (0 <= l.Day /\ l.Day <= 4000) && zbm l.Code && !decide ((l.State.toNat : Int) = 3)) = b -> dn Q (.bool b) h := fun b hb => by
  refine e _ ?_
  rw [<- hb]
  unfold zev
  simp at h1 h2
  cases hc : zbm l.Item
  ·simp [hc] at h1
  ·simp [hc] at h1 ⊢
   intro
   omega
 refine B.zd (fun h3 => ?_) (fun h3 => ?_)
 ·simp +contextual -dsimp
  refine e2 _ ?_
  rw [h3]; simp
 ·have h3' : decide (l.Day = -1) = false := h3
  simp +contextual -dsimp
  refine B.zeo (fun _ _ hq => s1 _ _ _ hq) ?_
  simp +contextual -dsimp
  refine e2 _ ?_
  rw [h3']
  simp [Bool.decide_and, Bool.and_assoc]
def zd7.Spec (C : CSem) (N : zN) : Prop := ∀ (l : Line) (h : za) (Q : zQ), Q (.bool (zev l)) h -> C (N 180) [.agg l.cs] h Q
theorem zd7.spec (i : zd7.Imp C N) (s1 : zb4.Spec C N) : zd7.Spec C N := by
 intro l h Q hq
 apply i
 have e : ∀ b, zev l = b -> dn Q (.bool b) h := fun b hb => by rw [<- hb]; exact zk hq
 simp +contextual -dsimp
 refine B.zeo (fun _ _ hq => s1 _ _ _ hq) ?_
 simp +contextual -dsimp
 refine B.zd (fun h1 => ?_) (fun h1 => ?_)
 ·refine e _ ?_
  simp at h1
  unfold zev
  cases hc : zbm l.Item
  ·simp
  ·simp [hc] at h1 ⊢; omega
 simp +contextual -dsimp
 refine B.zeo (fun _ _ hq => s1 _ _ _ hq) ?_
 simp +contextual -dsimp
 have e2 : ∀ b, (decide ((1 : Int) <= l.State.toNat /\ (l.State.toNat : Int) <= 3) && bif decide (l.Day = -1) then decide (l.Code = []) && !decide ((l.State.toNat : Int) = 2) else decide (0 <= l.Day /\ l.Day <= 4000) && zbm l.Code && !decide ((l.State.toNat : Int) = 3)) = b -> dn Q (.bool b) h := fun b hb => by
  refine e _ ?_
  rw [<- hb]
  unfold zev
  simp at h1
  cases hc : zbm l.Item
  ·simp [hc] at h1
  ·simp [hc] at h1
   have a1 : decide (0 < l.Id) = true := by rw [decide_eq_true_eq]; omega
   have a3 : decide (0 < l.Qty /\ l.Qty <= 1073741824 /\ 0 <= l.zvr /\ l.zvr <= 4000 /\ 0 <= l.Rank /\ l.Rank <= 99 /\ (1 : Int) <= l.State.toNat /\ (l.State.toNat : Int) <= 3) = decide ((1 : Int) <= l.State.toNat /\ (l.State.toNat : Int) <= 3) := by
    rw [decide_eq_decide]; omega
   rw [a1, a3]; rfl
 have cn : l.Code = [] -> zbm l.Code = false := fun e => by rw [e]; rfl
 refine B.zd (fun h3 => ?_) (fun h3 => ?_)
 ·simp +contextual -dsimp
  refine e2 _ ?_
  simp at h3
  by_cases hd : l.Day = -1 <;> by_cases hc : l.Code = [] <;> simp [h3, hd, hc, cn, Bool.decide_and]
 simp +contextual -dsimp
 simp at h3
 refine B.zd (fun h4 => ?_) (fun h4 => ?_)
 ·simp +contextual -dsimp
  refine e2 _ ?_
  simp at h4
  by_cases hd : l.Day = -1 <;> by_cases hc : l.Code = [] <;> simp [h4, hd, hc, cn, Bool.decide_and]
 simp +contextual -dsimp
 simp at h4
 refine B.zd (fun h5 => ?_) (fun h5 => ?_)
 ·simp +contextual -dsimp
  refine e2 _ ?_
  simp at h5
  by_cases hd : l.Day = -1 <;> by_cases hc : l.Code = [] <;> simp [h5, hd, hc, cn, Bool.decide_and]
 ·simp at h5
  refine e2 _ ?_
  have : decide ((1 : Int) <= l.State.toNat /\ (l.State.toNat : Int) <= 3) = false := by rw [decide_eq_false_iff_not]; omega
  rw [this]; rfl
end Go.Ab
namespace Go.Ab
structure Sta where
 Now : Int
 zg3 : Int
 zf3 : Int
 zem : List Itm
 Lots : List Lot
 zel : List Line
 deriving DecidableEq
def zlr (most : Nat) (l : List (List UInt8)) : Bool := l.all zbm && (decide l.Nodup && decide (l.length <= most))
def qtyB (x : Itm) : Bool := x.zek.all fun p => decide (1 <= p.Qty) && decide (p.Qty <= 1073741824)
def zil (x : Itm) : Bool := zlr 5 (x.Code :: x.zd0) && bif decide (x.zek = []) then decide (0 < x.Life) && decide (x.Life <= 2000) else qtyB x && (decide (x.Life = 0) && zlr 8 (zul x))
def zjq {T : Type} (lt : T -> T -> Bool) (x : T) : Option T -> Bool
 | some y => lt y x
 | none => true
def ordB {T : Type} (ok : T -> Bool) (lt : T -> T -> Bool) : Option T -> List T -> Bool
 | _, [] => true
 | p, x :: r => (ok x && zjq lt x p) && ordB ok lt (some x) r
def zu1 (l : List Itm) : Bool := ordB zil (fun a b => zkf a.Code b.Code) none l
def lotsB (l : List Lot) : Bool := ordB zfy (fun a b => decide (a.Id < b.Id)) none l
def linesB (l : List Line) : Bool := ordB zev (fun a b => decide (a.Id < b.Id)) none l
def numsB (s : Sta) : Bool := (((((decide (0 <= s.Now) && decide (s.Now <= 4000)) && decide (0 < s.zg3)) && decide (s.zg3 <= 4611686018427387904)) && decide (0 < s.zf3)) && decide (s.zf3 <= 4611686018427387904))
def zg5 (s : Sta) : Bool := numsB s && (zu1 s.zem && (lotsB s.Lots && linesB s.zel))
def zl6 (x : Itm) : List UInt8 := be x.Life 2 ++ (byt x.zek.length :: ((x.zek.flatMap fun p => zdr p.Item ++ be p.Qty 4) ++ (byt x.zd0.length :: x.zd0.flatMap zdr)))
def lotVal (l : Lot) : List UInt8 := zdr l.Item ++ (be l.From 2 ++ (be l.zrq 2 ++ (be l.Qty 4 ++ [bif l.zkn then 1 else 0])))
def lineVal (l : Line) : List UInt8 := zdr l.Item ++ (be l.Qty 4 ++ (be l.zvr 2 ++ ([byt l.Rank, l.State] ++ (be (l.Day + 1) 2 ++ zdr l.Code))))
def zk6 (x : Itm) : Row := ⟨105 :: x.Code, zl6 x⟩
def zlk (l : Lot) : Row := ⟨108 :: be l.Id 8, lotVal l⟩
def zi1 (l : Line) : Row := ⟨111 :: be l.Id 8, lineVal l⟩
def zhx (s : Sta) : List Row := [⟨[42, 100, 97, 121], be s.Now 2⟩, ⟨[42, 108, 105, 110, 101], be s.zf3 8⟩, ⟨[42, 108, 111, 116], be s.zg3 8⟩]
def zpm (s : Sta) : List Row := zhx s ++ (s.zem.map zk6 ++ (s.Lots.map zlk ++ s.zel.map zi1))
def allRows (s : Sta) : List Row := bif zg5 s then zpm s else []
variable {C : CSem}
section
variable {E : zfj} {X : Type} {cs : X -> List AVal} {v : X -> AVal} {h0 h : za} {x f : AVal} {G : List X} {R : List (List AVal)} {c : X -> X -> Int}
theorem addNN {a b : Nat} (h : a + b < 4611686018427387904) : V.bin .add (.int .i64 (a : Int)) (.int .i64 (b : Int)) = some (.int .i64 ((a + b : Nat) : Int)) := by
 rw [V.zej, show (a : Int) + (b : Int) = ((a + b : Nat) : Int) by simp, wrap_i64 (by omega) (by omega)]
theorem subNN {a b : Nat} (h : b <= a) (h2 : a < 4611686018427387904) : V.bin .sub (.int .i64 (a : Int)) (.int .i64 (b : Int)) = some (.int .i64 ((a - b : Nat) : Int)) := by
 rw [V.zi3, show (a : Int) - (b : Int) = ((a - b : Nat) : Int) by omega, wrap_i64 (by omega) (by omega)]
end
end Go.Ab
namespace Go.Ab
variable {C : CSem} {N : zN}
structure Rdr where
 at_ : Nat
 bad : Bool
def znu (l : List UInt8) : Nat := l.foldl (fun n c => 256 * n + c.toNat) 0
theorem zoa (l : List UInt8) (c : UInt8) : znu (l ++ [c]) = 256 * znu l + c.toNat := by simp [znu]
def rNum (b : List UInt8) (k : Nat) (r : Rdr) : Int × Rdr := if r.bad = true \/ b.length - r.at_ < k then (0, ⟨r.at_, true⟩) else (IntKind.i64.wrap (znu ((b.drop r.at_).take k)), ⟨r.at_ + k, false⟩)
def zfu (b : List UInt8) (r : Rdr) : List UInt8 × Rdr := if r.bad then ([], r) else ((zff (b.drop r.at_)).1, ⟨r.at_ + (zff (b.drop r.at_)).2.1, !(zff (b.drop r.at_)).2.2⟩)
theorem zgg {b : List UInt8} {k : Nat} {r : Rdr} (h : r.at_ <= b.length) : (rNum b k r).2.at_ <= b.length := by
 unfold rNum; split
 ·exact h
 ·rename_i hh; simp only [not_or] at hh; simp only; omega
theorem zn9 : ∀ b : List UInt8, (zff b).2.1 <= b.length
 | [] => by simp [zff]
 | c :: r => by rw [zhh]; split <;> simp; rename_i hh; simp only [not_or] at hh; omega
theorem ztn {b : List UInt8} {r : Rdr} (h : r.at_ <= b.length) : (zfu b r).2.at_ <= b.length := by
 unfold zfu; split
 ·exact h
 ·have := zn9 (b.drop r.at_); simp at this ⊢; omega
abbrev RdAt (h0 h : za) (p x : AVal) (r : Rdr) : Prop := Owns h0 h [.box p [x, .int .i64 (r.at_ : Int), .bool r.bad]]
theorem or_add (n c : Int) (hc0 : 0 <= c) (hc : c < 256) : V.bin .or (.int .i64 (IntKind.i64.wrap (n * 256))) (.int .i64 c) = some (.int .i64 (IntKind.i64.wrap (256 * n + c))) := by
 have key : (BitVec.ofInt 64 (IntKind.i64.wrap (n * 256)) ||| BitVec.ofInt 64 c) = BitVec.ofInt 64 (256 * n + c) := by
  have e1 : BitVec.ofInt 64 (IntKind.i64.wrap (n * 256)) = BitVec.ofInt 64 n <<< 8 := by
   apply BitVec.eq_of_toInt_eq
   rw [IntKind.wrap_i64, BitVec.toInt_shiftLeft, BitVec.toInt_ofInt, BitVec.toNat_ofInt]
   simp only [Int.bmod, Nat.shiftLeft_eq]
   omega
  have e2 : BitVec.ofInt 64 (256 * n + c) = (BitVec.ofInt 64 n <<< 8) + BitVec.ofInt 64 c := by
   apply BitVec.eq_of_toInt_eq
   rw [BitVec.toInt_add, BitVec.toInt_shiftLeft, BitVec.toInt_ofInt, BitVec.toInt_ofInt, BitVec.toNat_ofInt]
   simp only [Int.bmod, Nat.shiftLeft_eq]
   omega
  rw [e1, e2]
  symm
  apply BitVec.add_eq_or_of_and_eq_zero
  apply BitVec.eq_of_getLsbD_eq
  intro i hi
  simp only [BitVec.getLsbD_and, BitVec.getLsbD_shiftLeft, BitVec.getLsbD_zero]
  by_cases h8 : i < 8
  ·simp [h8]
  ·have : (BitVec.ofInt 64 c).getLsbD i = false := by
    rw [BitVec.getLsbD, BitVec.toNat_ofInt]
    apply Nat.testBit_lt_two_pow
    have h1 : (c % ((2 ^ 64 : Nat) : Int)).toNat = c.toNat := by omega
    rw [h1]
    have h2 : 2 ^ 8 <= 2 ^ i := Nat.pow_le_pow_right (by omega) (by omega)
    omega
   rw [this, Bool.and_false]
 simp only [V.bin, V.arith, if_true]
 show some (AVal.int .i64 (IntKind.i64.wrap ((BitVec.ofInt 64 (IntKind.i64.wrap (n * 256)) ||| BitVec.ofInt 64 c).toNat : Int))) = _
 rw [key]
 congr 2
 rw [IntKind.wrap_i64, IntKind.wrap_i64, BitVec.toNat_ofInt]
 omega
theorem bin_shl {k j : IntKind} {a b : Int} (h0 : 0 <= b) (h1 : b < k.bits) : V.bin .shl (.int k a) (.int j b) = some (.int k (k.wrap (a * 2 ^ b.toNat))) := by
 simp only [V.bin, V.shift]
 rw [if_neg (by omega), Nat.min_eq_left (by omega)]
theorem wrap_wrap (n c : Int) : IntKind.i64.wrap (256 * IntKind.i64.wrap n + c) = IntKind.i64.wrap (256 * n + c) := by
 simp only [IntKind.wrap_i64]; omega
def zm.Spec (C : CSem) (N : zN) : Prop := ∀ (h0 h : za) (p x : AVal) (b : List UInt8) (R : List (List AVal)) (r : Rdr) (k : Nat) (Q : zQ), SlX h0 1 x (b.map bc) R -> b.length < 4611686018427387904 -> r.at_ <= b.length -> k <= 8 -> RdAt h0 h p x r ->
 (∀ h', RdAt h0 h' p x (rNum b k r).2 -> Q (.int .i64 (rNum b k r).1) h') -> C (N 65) [p, .int .i64 (k : Int)] h Q
theorem zm.spec (i : zm.Imp C N) : zm.Spec C N := by
 intro h0 h p x b R r k Q hx hb hr hk ho hq
 apply i
 obtain ⟨id, rfl, hbx⟩ := ho.zgp 0 rfl
 have hx1 := hx.mono ho.le
 have hlx := hx1.zj
 rw [List.length_map] at hlx
 have ew : IntKind.i64.wrap ((b.length : Int) - r.at_) = (b.length : Int) - r.at_ := wrap_i64 (by omega) (by omega)
 simp +contextual -dsimp [zd2 hbx, hlx, ew]
 refine ho.zkj 0 rfl rfl (by simp) fun h1 ho1 _ => ?_
 obtain ⟨id', e, hbx1⟩ := ho1.zgp 0 rfl
 cases e
 have hx2 := hx.mono ho1.le
 simp +contextual -dsimp [zd2 hbx1]
 refine B.zd (fun h2 => ?_) (fun h2 => ?_)
 ·have e1 : rNum b k r = (0, ⟨r.at_, true⟩) := by unfold rNum; rw [if_pos]; cases hbad : r.bad <;> simp [hbad] at h2 ⊢; omega
  rw [e1] at hq
  refine zk (hq _ ?_)
  simpa [h2] using ho1
 ·have hbad : r.bad = false := by cases hbad : r.bad <;> simp [hbad] at h2 ⊢
  have hlt : r.at_ + k <= b.length := by simp [hbad] at h2; omega
  have e1 : rNum b k r = (IntKind.i64.wrap (znu ((b.drop r.at_).take k)), ⟨r.at_ + k, false⟩) := by unfold rNum; rw [if_neg]; simp [hbad]; omega
  rw [e1] at hq
  have ea : IntKind.i64.wrap ((r.at_ : Int) + k) = ((r.at_ + k : Nat) : Int) := by rw [wrap_i64 (by omega) (by omega)]; omega
  obtain ⟨z, R', e2, e3, _⟩ := hx2.zic (by omega) (lo := r.at_) (hi := r.at_ + k) (a := some (.int .i64 (r.at_ : Int))) (b := some (.int .i64 ((r.at_ + k : Nat) : Int))) (.inr ⟨_, rfl⟩) (.inr ⟨_, rfl⟩) (by omega) (by omega)
  have e4 : (b.take (r.at_ + k)).drop r.at_ = (b.drop r.at_).take k := by rw [List.drop_take]; congr 1; omega
  rw [e4] at e3
  have hlz := e3.zj
  have hln : ((b.drop r.at_).take k).length = k := by simp; omega
  rw [List.length_map, hln] at hlz
  simp -dsimp only [zm.k4, B.zd1, V.zdm, B.zf, B.zg6, zd2 hbx1, Nat.zero_add, List.getElem?_cons_zero, List.set, List.getElem?_cons_succ, V.zej, ea, e2, hlz]
  refine ze.intro (fun n vs hh => ∃ j : Nat, j + n = k /\ vs = [.int .i64 (IntKind.i64.wrap (znu (((b.drop r.at_).take k).take j))), .int .i64 j] /\ hh = h1) k ?_ ⟨0, by simp, by simp [znu]; rfl, rfl⟩
  rintro Y n vs hh ⟨j, hn, rfl, rfl⟩ hY
  simp +contextual -dsimp
  refine B.zd (fun h3 => ?_) (fun h3 => ?_) <;> simp at h3
  ·obtain ⟨c, hc⟩ := zc5 (L := (b.drop r.at_).take k) (k := j) (by omega)
   have hj : j < (((b.drop r.at_).take k).map bc).length := by rw [List.length_map]; omega
   have hcl := u8_lt c
   have ec : IntKind.i64.wrap (c.toNat : Int) = c.toNat := wrap_i64 (by omega) (by omega)
   have e5 := e3.cell (get_map hc)
   have e6 : bS.c c = .int .u8 c.toNat := rfl
   simp +contextual -dsimp [e3.idxN hj, e5, e6, bin_shl (k := .i64) (j := .u64) (b := 8) (by omega) (by simp [IntKind.bits]), ec]
   rw [or_add _ _ (by omega) (by omega)]
   simp +contextual -dsimp [zgt (n := j) (by omega)]
   refine hY (n - 1) _ _ (by omega) ⟨j + 1, by omega, ?_, rfl⟩
   rw [take_succ hc, zoa, wrap_wrap]
   simp
  ·have hjk : j = k := by omega
   subst hjk
   rw [List.take_take, Nat.min_self]
   simp -dsimp only [zm.k1, B.zd1, V.zdm, B.zf, B.zg6, zd2 hbx1, Nat.zero_add, List.getElem?_cons_zero, List.set, List.getElem?_cons_succ, V.zej, ea]
   refine ho1.zkj 0 rfl rfl (by simp) fun h4 ho4 _ => zk (hq _ ?_)
   show Owns h0 h4 [.box _ [x, .int .i64 ((r.at_ + j : Nat) : Int), .bool false]]
   simpa [h2] using ho4
def zo.Spec (C : CSem) (N : zN) : Prop := ∀ (h0 h : za) (p x : AVal) (b : List UInt8) (R : List (List AVal)) (r : Rdr) (k : Nat) (Q : zQ), SlX h0 1 x (b.map bc) R -> b.length < 4611686018427387904 -> r.at_ <= b.length -> k <= 8 -> RdAt h0 h p x r ->
 (∀ h', RdAt h0 h' p x (rNum b k r).2 -> Q (.int .i64 (rNum b k r).1) h') -> C (N 71) [p, .int .i64 (k : Int)] h Q
theorem zo.spec (i : zo.Imp C N) : zo.Spec C N := by
 intro h0 h p x b R r k Q hx hb hr hk ho hq
 apply i
 obtain ⟨id, rfl, hbx⟩ := ho.zgp 0 rfl
 have hx1 := hx.mono ho.le
 have hlx := hx1.zj
 rw [List.length_map] at hlx
 have ew : IntKind.i64.wrap ((b.length : Int) - r.at_) = (b.length : Int) - r.at_ := wrap_i64 (by omega) (by omega)
 simp +contextual -dsimp [zd2 hbx, hlx, ew]
 refine B.zd (fun h2 => ?_) (fun h2 => ?_)
 ·have e1 : rNum b k r = (0, ⟨r.at_, true⟩) := by unfold rNum; rw [if_pos]; cases hbad : r.bad <;> simp [hbad] at h2 ⊢; omega
  rw [e1] at hq
  simp +contextual -dsimp
  refine ho.zkj 0 rfl rfl (by simp) fun h1 ho1 _ => zk (hq _ ?_)
  simpa using ho1
 ·have hbad : r.bad = false := by cases hbad : r.bad <;> simp [hbad] at h2 ⊢
  have hlt : r.at_ + k <= b.length := by simp [hbad] at h2; omega
  have e1 : rNum b k r = (IntKind.i64.wrap (znu ((b.drop r.at_).take k)), ⟨r.at_ + k, false⟩) := by unfold rNum; rw [if_neg]; simp [hbad]; omega
  rw [e1] at hq
  have ea : IntKind.i64.wrap ((r.at_ : Int) + k) = ((r.at_ + k : Nat) : Int) := by rw [wrap_i64 (by omega) (by omega)]; omega
  refine ze.intro (fun n vs hh => ∃ j : Nat, j + n = k /\ vs = [.int .u64 (IntKind.u64.wrap (znu (((b.drop r.at_).take k).take j))), .int .i64 j] /\ hh = h) k ?_ ⟨0, by simp, by simp [znu]; rfl, rfl⟩
  rintro Y n vs hh ⟨j, hn, rfl, rfl⟩ hY
  simp +contextual -dsimp
  refine B.zd (fun h3 => ?_) (fun h3 => ?_) <;> simp at h3
  ·obtain ⟨c, hc⟩ := zc5 (L := b) (k := r.at_ + j) (by omega)
   have hc2 : ((b.drop r.at_).take k)[j]? = some c := by rw [List.getElem?_take_of_lt h3, List.getElem?_drop]; exact hc
   have hj : r.at_ + j < (b.map bc).length := by rw [List.length_map]; omega
   have hcl := u8_lt c
   have ec : IntKind.u64.wrap (c.toNat : Int) = c.toNat := by rw [wrap_u64]; omega
   have e5 := hx1.cell (get_map hc)
   have e6 : bS.c c = .int .u8 c.toNat := rfl
   have e7 : IntKind.i64.wrap ((r.at_ : Int) + j) = ((r.at_ + j : Nat) : Int) := by rw [wrap_i64 (by omega) (by omega)]; omega
   simp -dsimp only [B.zd1, V.zdm, B.zf, B.zg6, zd2 hbx, Nat.zero_add, List.getElem?_cons_zero, List.getElem?_cons_succ, V.zej, V.zvh, V.toInt_int, e7, hx1.idxN hj, e5, e6, ec, zgt (n := j) (by omega)]
   refine hY (n - 1) _ _ (by omega) ⟨j + 1, by omega, ?_, rfl⟩
   rw [take_succ hc2, zoa]
   simp only [wrap_u64]
   congr 2
   omega
  ·have hjk : j = k := by omega
   subst hjk
   rw [List.take_take, Nat.min_self]
   simp -dsimp only [zo.k1, B.zd1, V.zdm, B.zf, B.zg6, zd2 hbx, Nat.zero_add, List.getElem?_cons_zero, List.getElem?_cons_succ, V.zej, ea, V.toInt_int]
   refine ho.zkj 0 rfl rfl (by simp) fun h4 ho4 _ => zk ?_
   have e8 : IntKind.i64.wrap (IntKind.u64.wrap (znu ((b.drop r.at_).take j))) = IntKind.i64.wrap (znu ((b.drop r.at_).take j)) := by simp only [wrap_u64, IntKind.wrap_i64]; omega
   rw [e8]
   exact hq _ (by show Owns h0 h4 [.box _ [x, .int .i64 ((r.at_ + j : Nat) : Int), .bool false]]; simpa [hbad] using ho4)
def zb8.Spec (C : CSem) (N : zN) : Prop := ∀ (h0 h : za) (p x : AVal) (b : List UInt8) (R : List (List AVal)) (r : Rdr) (Q : zQ), SlX h0 1 x (b.map bc) R -> b.length < 4611686018427387904 -> r.at_ <= b.length -> RdAt h0 h p x r ->
 (∀ h', RdAt h0 h' p x (zfu b r).2 -> Q (.str (zfu b r).1) h') -> C (N 66) [p] h Q
theorem zb8.spec (i : zb8.Imp C N) (s1 : zfz.Spec C N) : zb8.Spec C N := by
 intro h0 h p x b R r Q hx hb hr ho hq
 apply i
 obtain ⟨id, rfl, hbx⟩ := ho.zgp 0 rfl
 have hx1 := hx.mono ho.le
 simp +contextual -dsimp [zd2 hbx]
 refine B.zd (fun h2 => ?_) (fun h2 => ?_)
 ·rw [show zfu b r = ([], r) by simp [zfu, h2]] at hq
  exact zk (hq _ ho)
 ·rw [show zfu b r = ((zff (b.drop r.at_)).1, ⟨r.at_ + (zff (b.drop r.at_)).2.1, !(zff (b.drop r.at_)).2.2⟩) by simp [zfu, h2]] at hq
  obtain ⟨z, R', e2, e3, _⟩ := hx1.zic (by omega) (lo := r.at_) (hi := b.length) (a := some (.int .i64 (r.at_ : Int))) (b := none) (.inr ⟨_, rfl⟩) (.inl ⟨rfl, rfl⟩) (by omega) (by omega)
  rw [List.take_length] at e3
  have hle := zn9 (b.drop r.at_)
  rw [List.length_drop] at hle
  simp +contextual -dsimp [zd2 hbx, e2]
  refine s1 z _ _ _ _ e3 (by simp; omega) ?_
  simp +contextual -dsimp
  refine ho.zkj 0 rfl rfl (by simp) fun h1 ho1 _ => ?_
  obtain ⟨id', e, hbx1⟩ := ho1.zgp 0 rfl
  cases e
  have ea : IntKind.i64.wrap ((r.at_ : Int) + (zff (b.drop r.at_)).2.1) = ((r.at_ + (zff (b.drop r.at_)).2.1 : Nat) : Int) := by rw [wrap_i64 (by omega) (by omega)]; omega
  simp -dsimp only [B.zd1, V.zdm, B.zf, B.zg6, zd2 hbx1, Nat.zero_add, List.getElem?_cons_zero, List.getElem?_cons_succ, List.set, V.zej, ea]
  exact ho1.zkj 0 rfl rfl (by simp) fun h4 ho4 _ => zk (hq _ ho4)
def zb0.Spec (C : CSem) (N : zN) : Prop := ∀ (h0 h : za) (p x : AVal) (b : List UInt8) (R : List (List AVal)) (r : Rdr) (Q : zQ), SlX h0 1 x (b.map bc) R -> b.length < 4611686018427387904 -> r.at_ <= b.length -> RdAt h0 h p x r ->
 (∀ h', RdAt h0 h' p x (zfu b r).2 -> Q (.str (zfu b r).1) h') -> C (N 73) [p] h Q
theorem zb0.spec (i : zb0.Imp C N) (s1 : zfc.Spec C N) : zb0.Spec C N := by
 intro h0 h p x b R r Q hx hb hr ho hq
 apply i
 obtain ⟨id, rfl, hbx⟩ := ho.zgp 0 rfl
 have hx1 := hx.mono ho.le
 simp +contextual -dsimp [zd2 hbx]
 refine B.zd (fun h2 => ?_) (fun h2 => ?_)
 ·rw [show zfu b r = ([], r) by simp [zfu, h2]] at hq
  exact zk (hq _ ho)
 ·rw [show zfu b r = ((zff (b.drop r.at_)).1, ⟨r.at_ + (zff (b.drop r.at_)).2.1, !(zff (b.drop r.at_)).2.2⟩) by simp [zfu, h2]] at hq
  obtain ⟨z, R', e2, e3, _⟩ := hx1.zic (by omega) (lo := r.at_) (hi := b.length) (a := some (.int .i64 (r.at_ : Int))) (b := none) (.inr ⟨_, rfl⟩) (.inl ⟨rfl, rfl⟩) (by omega) (by omega)
  rw [List.take_length] at e3
  have hle := zn9 (b.drop r.at_)
  rw [List.length_drop] at hle
  simp +contextual -dsimp [zd2 hbx, e2]
  refine s1 z _ _ _ _ e3 (by simp; omega) ?_
  simp +contextual -dsimp
  refine ho.zkj 0 rfl rfl (by simp) fun h1 ho1 _ => ?_
  obtain ⟨id', e, hbx1⟩ := ho1.zgp 0 rfl
  cases e
  have ea : IntKind.i64.wrap ((r.at_ : Int) + (zff (b.drop r.at_)).2.1) = ((r.at_ + (zff (b.drop r.at_)).2.1 : Nat) : Int) := by rw [wrap_i64 (by omega) (by omega)]; omega
  simp -dsimp only [B.zd1, V.zdm, B.zf, B.zg6, zd2 hbx1, Nat.zero_add, List.getElem?_cons_zero, List.getElem?_cons_succ, List.set, V.zej, ea]
  exact ho1.zkj 0 rfl rfl (by simp) fun h4 ho4 _ => zk (hq _ ho4)
def rLot (b : List UInt8) (r : Rdr) : Lot × Rdr :=
 let a := rNum b 8 r
 let c := zfu b a.2
 let f := rNum b 2 c.2
 let u := rNum b 2 f.2
 let q := rNum b 8 u.2
 let e := rNum b 1 q.2
 (⟨a.1, c.1, f.1, u.1, q.1, decide (e.1 = 1)⟩, ⟨e.2.at_, e.2.bad || decide (1 < e.1)⟩)
theorem rLot_le {b : List UInt8} {r : Rdr} (h : r.at_ <= b.length) : (rLot b r).2.at_ <= b.length :=
 zgg (zgg (zgg (zgg (ztn (zgg h)))))
def rUse (b : List UInt8) (r : Rdr) : Use × Rdr :=
 let a := rNum b 8 r
 let c := rNum b 8 a.2
 let f := rNum b 8 c.2
 (⟨a.1, c.1, f.1⟩, f.2)
theorem rUse_le {b : List UInt8} {r : Rdr} (h : r.at_ <= b.length) : (rUse b r).2.at_ <= b.length := zgg (zgg (zgg h))
def zci.Spec (C : CSem) (N : zN) : Prop := ∀ (h0 h : za) (p x : AVal) (b : List UInt8) (R : List (List AVal)) (r : Rdr) (Q : zQ), SlX h0 1 x (b.map bc) R -> b.length < 4611686018427387904 -> r.at_ <= b.length -> RdAt h0 h p x r ->
 (∀ h', RdAt h0 h' p x (rLot b r).2 -> Q (.agg (rLot b r).1.cs) h') -> C (N 67) [p] h Q
theorem zci.spec (i : zci.Imp C N) (s1 : zm.Spec C N) (s2 : zb8.Spec C N) : zci.Spec C N := by
 intro h0 h p x b R r Q hx hb hr ho hq
 apply i
 simp +contextual -dsimp
 refine s1 h0 h p x b R r 8 _ hx hb hr (by omega) ho fun h1 ho1 => ?_
 have l1 := zgg (k := 8) hr
 refine s2 h0 h1 p x b R _ _ hx hb l1 ho1 fun h2 ho2 => ?_
 have l2 := ztn l1
 simp +contextual -dsimp
 refine s1 h0 h2 p x b R _ 2 _ hx hb l2 (by omega) ho2 fun h3 ho3 => ?_
 have l3 := zgg (k := 2) l2
 refine s1 h0 h3 p x b R _ 2 _ hx hb l3 (by omega) ho3 fun h4 ho4 => ?_
 have l4 := zgg (k := 2) l3
 simp +contextual -dsimp
 refine s1 h0 h4 p x b R _ 8 _ hx hb l4 (by omega) ho4 fun h5 ho5 => ?_
 have l5 := zgg (k := 8) l4
 simp +contextual -dsimp
 refine s1 h0 h5 p x b R _ 1 _ hx hb l5 (by omega) ho5 fun h6 ho6 => ?_
 obtain ⟨id, rfl, hbx⟩ := ho6.zgp 0 rfl
 simp +contextual -dsimp [zd2 hbx]
 refine ho6.zkj 0 rfl rfl (by simp) fun h7 ho7 _ => ?_
 simp +contextual -dsimp
 exact zk (hq _ ho7)
def zch.Spec (C : CSem) (N : zN) : Prop := ∀ (h0 h : za) (p x : AVal) (b : List UInt8) (R : List (List AVal)) (r : Rdr) (Q : zQ), SlX h0 1 x (b.map bc) R -> b.length < 4611686018427387904 -> r.at_ <= b.length -> RdAt h0 h p x r ->
 (∀ h', RdAt h0 h' p x (rUse b r).2 -> Q (.agg (rUse b r).1.cs) h') -> C (N 69) [p] h Q
theorem zch.spec (i : zch.Imp C N) (s1 : zm.Spec C N) : zch.Spec C N := by
 intro h0 h p x b R r Q hx hb hr ho hq
 apply i
 simp +contextual -dsimp
 refine s1 h0 h p x b R r 8 _ hx hb hr (by omega) ho fun h1 ho1 => ?_
 have l1 := zgg (k := 8) hr
 refine s1 h0 h1 p x b R _ 8 _ hx hb l1 (by omega) ho1 fun h2 ho2 => ?_
 have l2 := zgg (k := 8) l1
 refine s1 h0 h2 p x b R _ 8 _ hx hb l2 (by omega) ho2 fun h3 ho3 => ?_
 simp +contextual -dsimp
 exact zk (hq _ ho3)
end Go.Ab
namespace Go.Ab
variable {C : CSem}
section
variable {X : Type} {c : X -> X -> Int} {a b m A0 Z0 : Nat} {G G' : List X}
end
abbrev I5 (F : AVal -> AVal -> AVal -> AVal -> AVal -> za -> (zQ) -> Prop) (C : CSem) (n : Nat) : Prop := ∀ (v0 v1 v2 v3 v4 : AVal) (h : za) (Q : zQ), F v0 v1 v2 v3 v4 h (dn Q) -> C n [v0, v1, v2, v3, v4] h Q
abbrev I4 (F : AVal -> AVal -> AVal -> AVal -> za -> (zQ) -> Prop) (C : CSem) (n : Nat) : Prop := ∀ (v0 v1 v2 v3 : AVal) (h : za) (Q : zQ), F v0 v1 v2 v3 h (dn Q) -> C n [v0, v1, v2, v3] h Q
section
variable {E : zfj} {X : Type} {cs : X -> List AVal} {v : X -> AVal} {h0 h : za} {x f : AVal} {G : List X} {R : List (List AVal)} {c : X -> X -> Int} {Q : zQ} {Y : zL} {f1 f2 f3 f4 f5 f6 f7 f8 f9 g1 g2 g3 g4 g5 g6 : Nat}
end
end Go.Ab
set_option maxRecDepth 100000
namespace Go.Ab
def Cst (C : CSem) : CSem := fun f args h Q => C f args.dropLast h Q
abbrev J4 (F : AVal -> AVal -> AVal -> AVal -> za -> (zQ) -> Prop) (C : CSem) (n : Nat) : Prop := ∀ (v0 v1 v2 v3 : AVal) (h : za) (Q : zQ), F v0 v1 v2 v3 h (dn Q) -> C n [v0, v1, v2, v3] h Q
abbrev J3 (F : AVal -> AVal -> AVal -> za -> (zQ) -> Prop) (C : CSem) (n : Nat) : Prop := ∀ (v0 v1 v2 : AVal) (h : za) (Q : zQ), F v0 v1 v2 h (dn Q) -> C n [v0, v1, v2] h Q
theorem e4 {F : AVal -> AVal -> AVal -> AVal -> AVal -> za -> (zQ) -> Prop} {G : AVal -> AVal -> AVal -> AVal -> za -> (zQ) -> Prop} {C : CSem} {f : Nat} (i : J4 G C f) (e : ∀ v0 v1 v2 v3 v4 h Q, F v0 v1 v2 v3 v4 h Q = G v0 v1 v2 v3 h Q) : I5 F (Cst C) f :=
 fun v0 v1 v2 v3 v4 h Q x => i v0 v1 v2 v3 h Q (by rw [<- e v0 v1 v2 v3 v4]; exact x)
theorem e3 {F : AVal -> AVal -> AVal -> AVal -> za -> (zQ) -> Prop} {G : AVal -> AVal -> AVal -> za -> (zQ) -> Prop} {C : CSem} {f : Nat} (i : J3 G C f) (e : ∀ v0 v1 v2 v3 h Q, F v0 v1 v2 v3 h Q = G v0 v1 v2 h Q) : I4 F (Cst C) f :=
 fun v0 v1 v2 v3 h Q x => i v0 v1 v2 h Q (by rw [<- e v0 v1 v2 v3]; exact x)
section
variable {C : CSem} {E : zfj} {fL e p q s r v b k n ad md o2 sd nx pw : Nat}
end
variable {C : CSem}
def Iter (C : CSem) (g : Nat) (first caps : List AVal) (D : za -> Prop) (xs : List (List AVal)) : Prop :=
 ∀ (id : Nat) (I : Nat -> za -> Prop) (Z : za -> Prop) (h : za) (Q : zQ), (∀ k h, I k h -> D h) ->
  (∀ k x h, xs[k]? = some x -> I k h -> C zoz (mkY id :: x) h fun v h' => (v = .bool true /\ I (k + 1) h') \/ (v = .bool false /\ Z h')) ->
  I 0 h -> (∀ h, I xs.length h -> Q (.tup []) h) -> (∀ h, Z h -> Q (.tup []) h) -> C g (first ++ [.yld id] ++ caps) h Q
theorem range_iter {g : Nat} {first caps : List AVal} {D : za -> Prop} {xs : List (List AVal)} {W : List AVal -> za -> (Nat -> za -> Prop) -> Prop} {h : za} {K : Nat -> za -> Prop} (hi : Iter C g first caps D xs) (hD : ∀ h h', h.le h' -> D h -> D h')
  (J X : Nat -> za -> Prop) (hJ : ∀ k h, J k h -> D h) (round : ∀ k x h E, xs[k]? = some x -> J k h -> (∀ h', J (k + 1) h' -> E 0 h') -> (∀ j h', X j h' -> E (j + 1) h') -> W x h E)
  (h0 : J 0 h) (hend : ∀ h, J xs.length h -> K 0 h) (hX : ∀ j h, X j h -> K (j + 1) h) : zwk C (.fn g first caps) W h K := by
 intro mk _ id hid hround
 refine hi id (fun k h2 => ∃ h1 : za, h1 id = none /\ h2 = upd h1 id (mk 0) /\ J k h1) (fun h2 => ∃ (j : Nat) (h1 : za), h1 id = none /\ h2 = upd h1 id (mk (j + 1)) /\ X j h1) _ _ ?_ ?_ ⟨h, hid, rfl, h0⟩ ?_ ?_
 ·rintro k _ ⟨h1, e, rfl, hj⟩
  exact hD _ _ (zhf _ e) (hJ k h1 hj)
 ·rintro k x _ hx ⟨h1, e, rfl, hj⟩
  exact hround x h1 _ e (round k x h1 _ hx hj (fun h' hj' => ⟨h', za.le_refl h', fun e' => .inl ⟨rfl, h', e', rfl, hj'⟩⟩) fun j h' hx' => ⟨h', za.le_refl h', fun e' => .inr ⟨rfl, j, h', e', rfl, hx'⟩⟩)
 ·rintro _ ⟨h1, e, rfl, hj⟩
  exact ⟨0, h1, e, za.le_refl _, hend h1 hj⟩
 ·rintro _ ⟨j, h1, e, rfl, hx⟩
  exact ⟨j + 1, h1, e, za.le_refl _, hX j h1 hx⟩
theorem RK.here {k : Nat} {p : za -> Prop} {r : List (Nat × (za -> Prop))} {h : za} (x : p h) : RK ((k, p) :: r) k h := .inl ⟨rfl, x⟩
theorem B.callv_yld {id : Nat} {args : List AVal} {h : za} {K : zQ} : B.zki h C (.yld id) args K = C zoz (mkY id :: args) h K := rfl
end Go.Ab
namespace Go.Ab
variable {C : CSem} {N : zN}
theorem Owns.cutTo {h0 h : za} {es : Nat} {x : AVal} {L R : List (List AVal)} (ho : Owns h0 h [.sl es x L R]) (hes : 0 < es) {k : Nat} (hk : k <= L.length) : ∃ y, V.zgo es x none (some (.int .i64 (k : Int))) = some y /\ Owns h0 h [.sl es y (L.take k) (L.drop k ++ R)] := by
 obtain ⟨y, h1, h2, h3⟩ := (ho.slAt 0 rfl).slice hes (a := none) (b := some (.int .i64 (k : Int))) (lo := 0) (hi := k) (.inl ⟨rfl, rfl⟩) (.inr ⟨_, rfl⟩) (by omega) (by omega)
 rw [List.drop_zero, List.take_append_of_le_length hk, List.drop_append_of_le_length hk] at h2
 refine ⟨y, h1, ?_⟩
 have := ho.turn (h' := h) 0 rfl (o' := .sl es y (L.take k) (L.drop k ++ R)) h2 (fun id b hf hb => ho.zl1 0 rfl id b (by rw [show Ob.foot (.sl es x L R) = foot x from rfl, <- h3]; exact hf) hb) (fun _ _ h _ => h) (.inl (by rw [show Ob.foot (.sl es y _ _) = foot y from rfl, h3]; rfl))
 simpa using this
end Go.Ab
namespace Go.Ab
variable {C : CSem} {N : zN}
theorem V.bin_slss (a b : List UInt8) : V.bin .lss (.str a) (.str b) = some (.bool (zkf a b)) := rfl
theorem repL_one : ∀ (n : Nat) (v : AVal), repL n [v] = List.replicate n v
 | 0, _ => rfl
 | n + 1, v => (congrArg (v :: ·) (repL_one n v)).trans rfl
theorem zpk {α : Type} {L : List (List α)} {k : Nat} (hk : k < L.length) : ((L.take (k + 1)).flatten).length = (L.take k).flatten.length + L[k].length := by
 rw [List.take_add_one, List.getElem?_eq_getElem hk]; simp only [Option.toList_some, List.flatten_append, List.length_append, List.flatten_singleton]
theorem zt2 {α : Type} (L : List (List α)) (k : Nat) : ((L.take k).flatten).length <= L.flatten.length := by
 conv => rhs; rw [<- List.take_append_drop k L]
 simp only [List.flatten_append, List.length_append]; omega
end Go.Ab
namespace Go.Ab
variable {C : CSem} {N : zN}
def zcm.Spec (C : CSem) (N : zN) : Prop := ∀ (n : Int) (k : Nat) (h : za) (Q : zQ), k <= 8 ->
 (∀ x' h', Owns h h' [.sl 1 x' ((be n k).map bc) []] -> Q x' h') -> C (N 423) [.int .i64 n, .int .i64 (k : Int)] h Q
theorem zcm.spec (i : zcm.Imp C N) : zcm.Spec C N := by
 intro n k h Q hk hq
 apply i
 simp -dsimp only [zcm.cps]
 refine ⟨by omega, ?_⟩
 refine (Owns.start h).mks (bytes := 1) (es := 1) rfl (by omega) (by omega) (by omega) (by omega) fun x h1 o1 => ?_
 simp only [Int.toNat_natCast, Nat.sub_self, zse] at o1
 have hx1 := o1.slAt 0 rfl
 have hlx : V.zj x = some (.int .i64 (k : Int)) := by simpa using hx1.zj
 simp -dsimp only [hlx, B.zf]
 refine ze.intro (fun t vs hh => ∃ (j : Nat) (pre : List UInt8) (z : List (List AVal)), j + t = k /\ vs = [.int .i64 (j : Int)] /\ pre.length = j /\ z.length = t /\ pre ++ be n t = be n k /\ Owns h hh [.sl 1 x (pre.map bc ++ z) []]) k ?_ ⟨0, [], _, by omega, rfl, rfl, by simp, rfl, o1⟩
 rintro Y t vs hh ⟨j, pre, z, ht, rfl, hpl, hzl, hpe, o⟩ hY
 simp -dsimp only [zcm.l2, zcm.k1, lssN, B.zf]
 refine B.zd (fun hb => ?_) (fun hb => ?_)
 ·rw [decide_eq_true_eq] at hb
  obtain ⟨t, rfl⟩ : ∃ u, t = u + 1 := ⟨t - 1, by omega⟩
  have e1 : V.bin .sub (.int .i64 (k : Int)) (.int .i64 1) = some (.int .i64 ((k - 1 : Nat) : Int)) := subNN (b := 1) (by omega) (by omega)
  have e2 : V.bin .sub (.int .i64 ((k - 1 : Nat) : Int)) (.int .i64 (j : Int)) = some (.int .i64 (t : Int)) := by
   rw [subNN (by omega) (by omega)]; congr 3; omega
  have e3 : V.bin .mul (.int .i64 8) (.int .i64 (t : Int)) = some (.int .i64 (8 * (t : Int))) := by rw [V.zvh, wrap_i64 (by omega) (by omega)]
  have e4 : V.bin .shr (.int .i64 n) (.int .i64 (8 * (t : Int))) = some (.int .i64 (n.fdiv (2 ^ (8 * t)))) := by
   rw [zsi (by omega) (by simp [IntKind.bits]; omega)]
   congr 4
  have e5 : V.toInt .u8 (.int .i64 (n.fdiv (2 ^ (8 * t)))) = some (.int .u8 ((byt (n.fdiv (2 ^ (8 * t)))).toNat : Int)) := by
   simp -dsimp [zj1]
  obtain ⟨c, z', rfl⟩ : ∃ c z', z = c :: z' := by
   cases z with
   | nil => simp at hzl
   | cons c z' => exact ⟨c, z', rfl⟩
  have hxo := o.slAt 0 rfl
  have hjl : j < (pre.map bc ++ c :: z').length := by simp; omega
  have hidx : V.idxS 1 x (.int .i64 (j : Int)) = some (elp 1 x j 0) := hxo.idxN hjl
  have hg : (pre.map bc ++ c :: z')[j]? = some c := by
   rw [List.getElem?_append_right (by simp; omega)]; simp [hpl]
  have hcl : c.length = 1 := hxo.len c (by simp)
  obtain ⟨u, rfl⟩ := List.length_eq_one_iff.1 hcl
  simp -dsimp only [e1, e2, e3, e4, e5, hidx, B.zf]
  refine o.st 0 rfl hg (by omega) rfl fun h3 o3 _ => ?_
  simp -dsimp only [add1 (show j < 4611686018427387904 by omega), B.zf]
  refine hY t _ _ (by omega) ⟨j + 1, pre ++ [byt (n.fdiv (2 ^ (8 * t)))], z', by omega, rfl, by simp [hpl], by simpa using hzl, ?_, ?_⟩
  ·rw [<- hpe, be, List.append_assoc]; rfl
  ·have e : (pre.map bc ++ [u] :: z').set j (([u] : List AVal).set 0 (.int .u8 ((byt (n.fdiv (2 ^ (8 * t)))).toNat : Int))) = (pre ++ [byt (n.fdiv (2 ^ (8 * t)))]).map bc ++ z' := by
    rw [List.set_append_right _ _ (by simp; omega)]
    simp [hpl]
    rfl
   rw [<- e]; exact o3
 ·rw [decide_eq_false_iff_not] at hb
  have : t = 0 := by omega
  subst this
  rw [be, List.append_nil] at hpe
  have hz : z = [] := List.length_eq_zero_iff.1 hzl
  subst hz hpe
  rw [List.append_nil] at o
  exact zk (hq _ _ o)
end Go.Ab
namespace Go.Ab
variable {C : CSem} {N : zN}
def ze8 {T : Type} (one : Rdr -> T × Rdr) : Nat -> Rdr -> List T × Rdr
 | 0, r => ([], r)
 | n + 1, r => if r.bad then ([], r) else ((one r).1 :: (ze8 one n (one r).2).1, (ze8 one n (one r).2).2)
theorem rList_le {T : Type} {one : Rdr -> T × Rdr} {m : Nat} (h1 : ∀ r : Rdr, r.at_ <= m -> (one r).2.at_ <= m) : ∀ (n : Nat) (r : Rdr), r.at_ <= m -> (ze8 one n r).2.at_ <= m
 | 0, _, h => h
 | n + 1, r, h => by
  rw [ze8]; split
  ·exact h
  ·exact rList_le h1 n _ (h1 r h)
theorem zld {T : Type} (one : Rdr -> T × Rdr) : ∀ (n : Nat) (r : Rdr), (ze8 one n r).1.length <= n
 | 0, _ => by simp [ze8]
 | n + 1, r => by
  rw [ze8]; split
  ·simp
  ·have := zld one n (one r).2; simp; omega
theorem beVal_lt : ∀ (n : Nat) (l : List UInt8), l.length = n -> znu l < 256 ^ n
 | 0, l, h => by rw [List.length_eq_zero_iff.1 h]; simp [znu]
 | n + 1, l, h => by
  have hne : l ≠ [] := fun e => by rw [e] at h; cases h
  obtain ⟨a, c, rfl⟩ : ∃ a c, l = a ++ [c] := ⟨l.dropLast, l.getLast hne, (List.dropLast_concat_getLast hne).symm⟩
  rw [zoa]
  have h1 := beVal_lt n a (by simp at h; exact h)
  have h2 := u8_lt c
  rw [Nat.pow_succ]
  omega
theorem rNum_2 (b : List UInt8) (r : Rdr) : 0 <= (rNum b 2 r).1 /\ (rNum b 2 r).1 <= 65535 := by
 unfold rNum
 split
 ·simp
 ·rename_i h
  simp only [not_or] at h
  have := beVal_lt 2 ((b.drop r.at_).take 2) (by simp; omega)
  rw [wrap_i64 (by omega) (by omega)]
  omega
structure zqk (h0 : za) (x : AVal) (b : List UInt8) : Prop where
 is : ∃ R, SlX h0 1 x (b.map bc) R
 lt : b.length < 4611686018427387904
theorem zqk.mono {h0 h : za} {x : AVal} {b : List UInt8} (hr : zqk h0 x b) (hle : h0.le h) : zqk h x b := by
 obtain ⟨⟨R, a⟩, c⟩ := hr; exact ⟨⟨R, a.mono hle⟩, c⟩
def zbo.Spec (C : CSem) (N : zN) : Prop := ∀ (h0 h : za) (p x : AVal) (b : List UInt8) (r : Rdr) (Q : zQ), zqk h0 x b -> r.at_ <= b.length -> RdAt h0 h p x r ->
 (∀ y h', Owns h0 h' [.sl 6 y ((ze8 (rLot b) (rNum b 2 r).1.toNat (rNum b 2 r).2).1.map Lot.cs) [], .box p [x, .int .i64 ((ze8 (rLot b) (rNum b 2 r).1.toNat (rNum b 2 r).2).2.at_ : Int), .bool (ze8 (rLot b) (rNum b 2 r).1.toNat (rNum b 2 r).2).2.bad]] -> Q y h') -> C (N 68) [p, .fn (N 67) [p] []] h Q
theorem zbo.spec (i : zbo.Imp C N) (s1 : zm.Spec C N) (s2 : zci.Spec C N) : zbo.Spec C N := by
 intro h0 h p x b r Q hx hr ho hq
 apply i
 obtain ⟨⟨R, hxx⟩, hb⟩ := hx
 try simp +contextual -dsimp
 refine s1 h0 h p x b R r 2 _ hxx hb hr (by omega) ho fun h1 ho1 => ?_
 have l1 := zgg (k := 2) hr
 obtain ⟨n1, n2⟩ := rNum_2 b r
 generalize rNum b 2 r = a at *
 obtain ⟨z, r1⟩ := a
 simp only at n1 n2 l1 hq ho1 ⊢
 refine ze.intro (fun t vs hh => ∃ (o : AVal) (acc : List Lot) (r : Rdr), vs = [o, .int .i64 (t : Int)] /\ t <= 65535 /\ acc.length + t <= 65535 /\ r.at_ <= b.length /\ acc ++ (ze8 (rLot b) t r).1 = (ze8 (rLot b) z.toNat r1).1 /\ (ze8 (rLot b) t r).2 = (ze8 (rLot b) z.toNat r1).2 /\
   Owns h0 hh [.sl 6 o (acc.map Lot.cs) [], .box p [x, .int .i64 (r.at_ : Int), .bool r.bad]]) z.toNat ?_ ⟨.nils, [], r1, by rw [Int.toNat_of_nonneg n1], by omega, by simp; omega, l1, rfl, rfl, (ho1.nils 6).perm (List.Perm.swap ..)⟩
 rintro Y t vs hh ⟨o, acc, r, rfl, ht, hal, hr, e1, e2, ho⟩ hY
 obtain ⟨id, rfl, hbx⟩ := ho.zgp 1 rfl
 simp +contextual -dsimp [zd2 hbx]
 refine B.zd (fun h2 => ?_) (fun h2 => ?_) <;> simp at h2
 ·obtain ⟨t, rfl⟩ : ∃ u, t = u + 1 := ⟨t - 1, by omega⟩
  simp only [ze8, h2.2, Bool.false_eq_true, if_false] at e1 e2
  obtain ⟨q1, q2⟩ := ho.out (l1 := [_]) (l2 := [_])
  try simp +contextual -dsimp
  refine s2 _ hh _ x b R r _ (hxx.mono q1.le) hb hr q2 fun h3 ho3 => ?_
  have ho4 := q1.join ho3
  try simp +contextual -dsimp
  refine ho4.push 0 rfl rfl (by omega) (by simp; omega) (by simp [maxLen]; omega) fun o' h5 ho5 _ => ?_
  have e4 : IntKind.i64.wrap (((t + 1 : Nat) : Int) - 1) = (t : Int) := by rw [wrap_i64 (by omega) (by omega)]; omega
  simp -dsimp only [V.zi3, e4, B.zf]
  refine hY t _ _ (by omega) ⟨o', acc ++ [(rLot b r).1], (rLot b r).2, rfl, by omega, by simp; omega, rLot_le hr, ?_, e2, ?_⟩
  ·rw [<- e1, List.append_assoc]; rfl
  ·rw [List.map_append]; exact ho5
 ·have : (ze8 (rLot b) t r) = ([], r) := by
   cases t with
   | zero => rfl
   | succ t => simp [ze8, h2 (by omega)]
  rw [this, List.append_nil] at e1
  rw [this] at e2
  subst e1
  rw [<- e2] at hq
  exact zk (hq _ _ ho)
def zbn.Spec (C : CSem) (N : zN) : Prop := ∀ (h0 h : za) (p x : AVal) (b : List UInt8) (r : Rdr) (Q : zQ), zqk h0 x b -> r.at_ <= b.length -> RdAt h0 h p x r ->
 (∀ y h', Owns h0 h' [.sl 3 y ((ze8 (rUse b) (rNum b 2 r).1.toNat (rNum b 2 r).2).1.map Use.cs) [], .box p [x, .int .i64 ((ze8 (rUse b) (rNum b 2 r).1.toNat (rNum b 2 r).2).2.at_ : Int), .bool (ze8 (rUse b) (rNum b 2 r).1.toNat (rNum b 2 r).2).2.bad]] -> Q y h') -> C (N 70) [p, .fn (N 69) [p] []] h Q
theorem zbn.spec (i : zbn.Imp C N) (s1 : zm.Spec C N) (s2 : zch.Spec C N) : zbn.Spec C N := by
 intro h0 h p x b r Q hx hr ho hq
 apply i
 obtain ⟨⟨R, hxx⟩, hb⟩ := hx
 try simp +contextual -dsimp
 refine s1 h0 h p x b R r 2 _ hxx hb hr (by omega) ho fun h1 ho1 => ?_
 have l1 := zgg (k := 2) hr
 obtain ⟨n1, n2⟩ := rNum_2 b r
 generalize rNum b 2 r = a at *
 obtain ⟨z, r1⟩ := a
 simp only at n1 n2 l1 hq ho1 ⊢
 refine ze.intro (fun t vs hh => ∃ (o : AVal) (acc : List Use) (r : Rdr), vs = [o, .int .i64 (t : Int)] /\ t <= 65535 /\ acc.length + t <= 65535 /\ r.at_ <= b.length /\ acc ++ (ze8 (rUse b) t r).1 = (ze8 (rUse b) z.toNat r1).1 /\ (ze8 (rUse b) t r).2 = (ze8 (rUse b) z.toNat r1).2 /\
   Owns h0 hh [.sl 3 o (acc.map Use.cs) [], .box p [x, .int .i64 (r.at_ : Int), .bool r.bad]]) z.toNat ?_ ⟨.nils, [], r1, by rw [Int.toNat_of_nonneg n1], by omega, by simp; omega, l1, rfl, rfl, (ho1.nils 3).perm (List.Perm.swap ..)⟩
 rintro Y t vs hh ⟨o, acc, r, rfl, ht, hal, hr, e1, e2, ho⟩ hY
 obtain ⟨id, rfl, hbx⟩ := ho.zgp 1 rfl
 simp +contextual -dsimp [zd2 hbx]
 refine B.zd (fun h2 => ?_) (fun h2 => ?_) <;> simp at h2
 ·obtain ⟨t, rfl⟩ : ∃ u, t = u + 1 := ⟨t - 1, by omega⟩
  simp only [ze8, h2.2, Bool.false_eq_true, if_false] at e1 e2
  obtain ⟨q1, q2⟩ := ho.out (l1 := [_]) (l2 := [_])
  try simp +contextual -dsimp
  refine s2 _ hh _ x b R r _ (hxx.mono q1.le) hb hr q2 fun h3 ho3 => ?_
  have ho4 := q1.join ho3
  try simp +contextual -dsimp
  refine ho4.push 0 rfl rfl (by omega) (by simp; omega) (by simp [maxLen]; omega) fun o' h5 ho5 _ => ?_
  have e4 : IntKind.i64.wrap (((t + 1 : Nat) : Int) - 1) = (t : Int) := by rw [wrap_i64 (by omega) (by omega)]; omega
  simp -dsimp only [V.zi3, e4, B.zf]
  refine hY t _ _ (by omega) ⟨o', acc ++ [(rUse b r).1], (rUse b r).2, rfl, by omega, by simp; omega, rUse_le hr, ?_, e2, ?_⟩
  ·rw [<- e1, List.append_assoc]; rfl
  ·rw [List.map_append]; exact ho5
 ·have : (ze8 (rUse b) t r) = ([], r) := by
   cases t with
   | zero => rfl
   | succ t => simp [ze8, h2 (by omega)]
  rw [this, List.append_nil] at e1
  rw [this] at e2
  subst e1
  rw [<- e2] at hq
  exact zk (hq _ _ ho)
def zn1 (b : List UInt8) (e : Int) (r : Rdr) : zgd × Rdr :=
 let i := rNum b 8 r
 let d := rNum b 2 i.2
 let c := zfu b d.2
 let s := rNum b 1 c.2
 let nl := rNum b 2 s.2
 let ls := ze8 (rLot b) nl.1.toNat nl.2
 let nu := rNum b 2 ls.2
 let us := ze8 (rUse b) nu.1.toNat nu.2
 (⟨e, i.1, d.1 - 1, c.1, byt s.1, ls.1, us.1⟩, us.2)
def zi6 (b : List UInt8) : zgd × Rdr := if (rNum b 2 ⟨0, false⟩).1 = 0 then zn1 b (rNum b 2 ⟨0, false⟩).1 (rNum b 2 ⟨0, false⟩).2 else (⟨(rNum b 2 ⟨0, false⟩).1, 0, 0, [], 0, [], []⟩, (rNum b 2 ⟨0, false⟩).2)
def zn0 : zgd := ⟨0, 0, 0, [], 0, [], []⟩
def zj2 (b : List UInt8) : zgd × Nat × Int := if (zi6 b).2.bad || !zgi (zi6 b).1 then (zn0, 0, 4) else ((zi6 b).1, (zi6 b).2.at_, 0)
theorem Owns.boxStn {h0 h : za} {l : List Ob} (ho : Owns h0 h l) (k : Nat) {id n : Nat} {cs xs : List AVal} {K : za -> Prop} (hk : l[k]? = some (.box (.ptr id 0 0) cs)) (hn : xs.length = n) (hc : cs.length = n)
  (hK : ∀ h', Owns h0 h' (l.set k (.box (.ptr id 0 0) xs)) -> But (.ptr id 0 0) h h' -> K h') : A.stn h (.ptr id 0 0) n (.agg xs) K := by
 obtain ⟨id', e, hb⟩ := ho.zgp k hk
 cases e
 rw [stn_at hb hn (by omega)]
 have e1 : cs.take 0 ++ xs ++ cs.drop (0 + n) = xs := by simp [<- hc]
 rw [e1]
 have hbut : But (.ptr id 0 0) h (upd h id (zee xs)) := fun j b e1 e2 => by rw [zl]; exact e1; intro e; subst e; exact e2 rfl
 exact hK _ (ho.turn k hk ⟨id, rfl, zbj ..⟩ (fun j b hj hb' => by cases hj; rw [zbj] at hb'; cases hb'; rfl) hbut (.inl rfl)) hbut
def zm2 (t : zgd) (r : Rdr) : zgd × Nat × Int := if r.bad || !zgi t then (zn0, 0, 4) else (t, r.at_, 0)
theorem tellGet_eq (b : List UInt8) : zj2 b = zm2 (zi6 b).1 (zi6 b).2 := rfl
@[simp] def zgd.val (g : zgd × Nat × Int) (x y : AVal) : AVal := .tup [.agg (g.1.cs x y), .int .i64 (g.2.1 : Int), .int .i64 g.2.2]
theorem zds.fin (s : zb3.Spec C N) {h hh : za} {i2 : Nat} {p x : AVal} {cs2 : List AVal} {t : zgd} {r : Rdr} {lx ly : AVal} {Q : zQ} (ho : Owns h hh [.box (.ptr i2 0 0) cs2, .box p [x, .int .i64 (r.at_ : Int), .bool r.bad], .sl 6 lx (t.Lots.map Lot.cs) [], .sl 3 ly (t.Uses.map Use.cs) []])
  (hc : cs2.length = 7) (hl1 : t.Lots.length <= 65535) (hl2 : t.Uses.length <= 65535)
  (hq : ∀ x' y' h', Owns h h' [.sl 6 x' ((zm2 t r).1.Lots.map Lot.cs) [], .sl 3 y' ((zm2 t r).1.Uses.map Use.cs) []] -> Q (zgd.val (zm2 t r) x' y') h') : zds.k1 C N (dn Q) (.ptr i2 0 0) p (.agg (t.cs lx ly)) hh := by
 obtain ⟨id, rfl, hbx⟩ := ho.zgp 1 rfl
 simp +contextual -dsimp [zd2 hbx]
 refine B.zeo (fun _ _ hq => s t lx ly _ _ ⟨⟨_, ho.slAt 2 rfl⟩, ⟨_, ho.slAt 3 rfl⟩⟩ (by omega) (by omega) hq) ?_
 simp +contextual -dsimp
 refine B.zd (fun h1 => ?_) (fun h1 => ?_)
 ·have e : zm2 t r = (zn0, 0, 4) := by unfold zm2; rw [if_pos]; simpa using h1
  rw [e] at hq
  try simp +contextual -dsimp
  refine ho.boxStn 0 rfl rfl hc fun h2 ho2 _ => ?_
  obtain ⟨id', e', hb2⟩ := ho2.zgp 0 rfl
  cases e'
  simp -dsimp [ldnv_at hb2]
  refine zk (hq .nils .nils h2 ?_)
  exact ((Owns.nil ho2.le).nils 6).nils 3
 ·have e : zm2 t r = (t, r.at_, 0) := by unfold zm2; rw [if_neg]; simpa using h1
  rw [e] at hq
  try simp +contextual -dsimp
  simp -dsimp [zd2 hbx]
  refine ho.boxStn 0 rfl rfl hc fun h2 ho2 _ => ?_
  obtain ⟨id', e', hb2⟩ := ho2.zgp 0 rfl
  cases e'
  obtain ⟨id', e', hb3⟩ := ho2.zgp 1 rfl
  cases e'
  refine ⟨fun q hq => ?_, ?_⟩
  ·rw [List.mem_singleton.1 hq]
   exact ⟨.int .i64 (r.at_ : Int), by rw [zd2 hbx]; rfl, by rw [zd2 hb3]; rfl⟩
  ·simp -dsimp [ldnv_at hb2]
   exact zk (hq lx ly h2 (ho2.sub (by simp)))
def zds.Spec (C : CSem) (N : zN) : Prop := ∀ (x : AVal) (b : List UInt8) (h : za) (Q : zQ), zqk h x b ->
 (∀ x' y' h', Owns h h' [.sl 6 x' ((zj2 b).1.Lots.map Lot.cs) [], .sl 3 y' ((zj2 b).1.Uses.map Use.cs) []] -> Q (zgd.val (zj2 b) x' y') h') -> C (N 38) [x] h Q
theorem zds.spec (i : zds.Imp C N) (s1 : zm.Spec C N) (s2 : zb8.Spec C N) (s3 : zbo.Spec C N) (s4 : zbn.Spec C N) (s5 : zb3.Spec C N) : zds.Spec C N := by
 intro x b h Q hx hq
 apply i
 rw [tellGet_eq] at hq
 obtain ⟨⟨R, hxx⟩, hb⟩ := hx
 have hxc := hxx.zi
 try simp -dsimp [hxc]
 intro i2 hi2
 simp -dsimp [hxc]
 intro i9 hi9
 have o1 := (Owns.start h).zkd hi2 [.int .i64 0, .int .i64 0, .int .i64 0, .str [], .int .u8 0, .nils, .nils]
 have o2 := (Owns.start _).zkd hi9 [x, .int .i64 0, .bool false]
 simp only [List.nil_append] at o1 o2
 have hx1 := hxx.mono o1.le
 refine s1 _ _ (.ptr i9 0 0) x b R ⟨0, false⟩ 2 _ hx1 hb (by simp) (by omega) o2 fun h3 o3 => ?_
 have l3 := zgg (b := b) (r := ⟨0, false⟩) (k := 2) (by simp)
 simp -dsimp
 refine B.zd (fun h4 => ?_) (fun h4 => ?_)
 ·rw [decide_eq_true_eq] at h4
  rw [show zi6 b = zn1 b (rNum b 2 ⟨0, false⟩).1 (rNum b 2 ⟨0, false⟩).2 by unfold zi6; rw [if_pos h4]] at hq
  generalize rNum b 2 ⟨0, false⟩ = g3 at *
  obtain ⟨e, r3⟩ := g3
  simp only at h4 l3 o3 hq ⊢
  try simp +contextual -dsimp
  refine s1 _ _ (.ptr i9 0 0) x b R r3 8 _ hx1 hb l3 (by omega) o3 fun h5 o5 => ?_
  have l5 := zgg (k := 8) l3
  try simp +contextual -dsimp
  refine s1 _ _ (.ptr i9 0 0) x b R _ 2 _ hx1 hb l5 (by omega) o5 fun h6 o6 => ?_
  have l6 := zgg (k := 2) l5
  obtain ⟨n1, n2⟩ := rNum_2 b (rNum b 8 r3).2
  have ew : IntKind.i64.wrap ((rNum b 2 (rNum b 8 r3).2).1 - 1) = (rNum b 2 (rNum b 8 r3).2).1 - 1 := wrap_i64 (by omega) (by omega)
  simp +contextual -dsimp [ew]
  refine s2 _ _ (.ptr i9 0 0) x b R _ _ hx1 hb l6 o6 fun h7 o7 => ?_
  have l7 := ztn l6
  try simp +contextual -dsimp
  refine s1 _ _ (.ptr i9 0 0) x b R _ 1 _ hx1 hb l7 (by omega) o7 fun h8 o8 => ?_
  have l8 := zgg (k := 1) l7
  simp +contextual -dsimp [zj1]
  refine s3 _ _ (.ptr i9 0 0) x b _ _ ⟨⟨R, hx1⟩, hb⟩ l8 o8 fun lx h9 o9 => ?_
  have l9 := rList_le (one := rLot b) (fun r hr => rLot_le hr) (rNum b 2 (rNum b 1 (zfu b (rNum b 2 (rNum b 8 r3).2).2).2).2).1.toNat _ (zgg (k := 2) l8)
  have len1 := zld (rLot b) (rNum b 2 (rNum b 1 (zfu b (rNum b 2 (rNum b 8 r3).2).2).2).2).1.toNat (rNum b 2 (rNum b 1 (zfu b (rNum b 2 (rNum b 8 r3).2).2).2).2).2
  have m1 := rNum_2 b (rNum b 1 (zfu b (rNum b 2 (rNum b 8 r3).2).2).2).2
  have hcx := (o9.slAt 0 rfl).zi
  simp +contextual -dsimp [hcx]
  obtain ⟨q1, q2⟩ := o9.out (l1 := [_]) (l2 := [_])
  refine s4 _ _ (.ptr i9 0 0) x b _ _ (zqk.mono ⟨⟨R, hx1⟩, hb⟩ q1.le) l9 q2 fun ly h10 o10 => ?_
  have hcy := (o10.slAt 0 rfl).zi
  simp -dsimp only [B.zhp, V.setF_agg, V.put1_cell, hcy, cond_true, List.length_set, List.length_cons, List.length_nil, List.set, optAgg_some, B.zf, if_true, show 6 < 0 + 1 + 1 + 1 + 1 + 1 + 1 + 1 by omega]
  have len2 := zld (rUse b) (rNum b 2 (ze8 (rLot b) (rNum b 2 (rNum b 1 (zfu b (rNum b 2 (rNum b 8 r3).2).2).2).2).1.toNat (rNum b 2 (rNum b 1 (zfu b (rNum b 2 (rNum b 8 r3).2).2).2).2).2).2).1.toNat (rNum b 2 (ze8 (rLot b) (rNum b 2 (rNum b 1 (zfu b (rNum b 2 (rNum b 8 r3).2).2).2).2).1.toNat (rNum b 2 (rNum b 1 (zfu b (rNum b 2 (rNum b 8 r3).2).2).2).2).2).2).2
  have m2 := rNum_2 b (ze8 (rLot b) (rNum b 2 (rNum b 1 (zfu b (rNum b 2 (rNum b 8 r3).2).2).2).2).1.toNat (rNum b 2 (rNum b 1 (zfu b (rNum b 2 (rNum b 8 r3).2).2).2).2).2).2
  have oo := o1.join (q1.join o10)
  refine zds.fin s5 (x := x) (cs2 := [.int .i64 0, .int .i64 0, .int .i64 0, .str [], .int .u8 0, .nils, .nils]) (t := (zn1 b e r3).1) (r := (zn1 b e r3).2) (oo.perm ?_) rfl (by simp only [zn1]; omega) (by simp only [zn1]; omega) hq
  exact List.Perm.cons _ (List.perm_append_comm (l₁ := [_, _]) (l₂ := [_]))
 ·rw [decide_eq_false_iff_not] at h4
  rw [show zi6 b = (⟨(rNum b 2 ⟨0, false⟩).1, 0, 0, [], 0, [], []⟩, (rNum b 2 ⟨0, false⟩).2) by unfold zi6; rw [if_neg h4]] at hq
  exact zds.fin s5 (t := ⟨(rNum b 2 ⟨0, false⟩).1, 0, 0, [], 0, [], []⟩) (((o1.join o3).nils 6).nils 3) rfl (by simp) (by simp) hq
end Go.Ab
namespace Go.Ab
variable {C : CSem} {N : zN}
def RwL (hb h0 h : za) (l : List Ob) (p : AVal) (b : List UInt8) (r : Rdr) : Prop := ∃ z R, SlX hb 1 z ((b.drop r.at_).map bc) R /\ Owns h0 h (l ++ [.box p [z, .bool r.bad]]) /\ hb.le h0 /\ r.at_ <= b.length /\ b.length < 4611686018427387904
section
variable {hb h0 h : za} {l : List Ob} {p : AVal} {b : List UInt8} {r : Rdr}
theorem ziv {o : Ob} : (l ++ [o])[l.length]? = some o := by simp
theorem zs0 {o o' : Ob} : (l ++ [o]).set l.length o' = l ++ [o'] := by simp
theorem RwL.ptr (s : RwL hb h0 h l p b r) : ∃ id, p = .ptr id 0 0 /\ A.ldv h (.ptr id 0 1) = some (.bool r.bad) := by
 obtain ⟨z, R, hz, ho, _⟩ := s
 obtain ⟨id, rfl, hbx⟩ := ho.zgp l.length ziv
 exact ⟨id, rfl, by simp [zd2 hbx]⟩
end
def zn.Spec (C : CSem) (N : zN) : Prop := ∀ (hb h0 h : za) (l : List Ob) (p : AVal) (b : List UInt8) (r : Rdr) (k : Nat) (Q : zQ), RwL hb h0 h l p b r -> k <= 8 ->
 (∀ h', RwL hb h0 h' l p b (rNum b k r).2 -> Q (.int .i64 (rNum b k r).1) h') -> C (N 432) [p, .int .i64 (k : Int)] h Q
theorem zn.spec (i : zn.Imp C N) : zn.Spec C N := by
 intro hb h0 h l p b r k Q hs hk hq
 apply i
 obtain ⟨z, R, hz, ho, hle, hr, hbl⟩ := hs
 obtain ⟨id, rfl, hbx⟩ := ho.zgp l.length ziv
 have hz1 := hz.mono (za.le_trans hle ho.le)
 have hlz := hz1.zj
 rw [List.length_map, List.length_drop] at hlz
 simp +contextual -dsimp [zd2 hbx, hlz]
 refine ho.zkj l.length ziv rfl (by simp) fun h1 ho1 _ => ?_
 rw [zs0] at ho1
 obtain ⟨id', e, hbx1⟩ := ho1.zgp l.length ziv
 cases e
 have hz2 := hz.mono (za.le_trans hle ho1.le)
 simp +contextual -dsimp [zd2 hbx1]
 refine B.zd (fun h2 => ?_) (fun h2 => ?_)
 ·have e1 : rNum b k r = (0, ⟨r.at_, true⟩) := by unfold rNum; rw [if_pos]; cases hbad : r.bad <;> simp [hbad] at h2 ⊢; omega
  rw [e1] at hq
  refine zk (hq _ ⟨z, R, hz, ?_, hle, hr, hbl⟩)
  simpa [h2] using ho1
 ·have hbad : r.bad = false := by cases hbad : r.bad <;> simp [hbad] at h2 ⊢
  have hlt : r.at_ + k <= b.length := by simp [hbad] at h2; omega
  have e1 : rNum b k r = (IntKind.i64.wrap (znu ((b.drop r.at_).take k)), ⟨r.at_ + k, false⟩) := by unfold rNum; rw [if_neg]; simp [hbad]; omega
  rw [e1] at hq
  obtain ⟨y, R', e2, e3, _⟩ := hz2.zic (by omega) (lo := 0) (hi := k) (a := none) (b := some (.int .i64 (k : Int))) (.inl ⟨rfl, rfl⟩) (.inr ⟨_, rfl⟩) (by omega) (by simp; omega)
  obtain ⟨w, R2, f2, f3, _⟩ := hz.zic (by omega) (lo := k) (hi := (b.drop r.at_).length) (a := some (.int .i64 (k : Int))) (b := none) (.inr ⟨_, rfl⟩) (.inl ⟨rfl, by simp⟩) (by simp; omega) (by simp)
  rw [List.drop_zero] at e3
  rw [List.take_length, List.drop_drop] at f3
  have hlz := e3.zj
  have hln : ((b.drop r.at_).take k).length = k := by simp; omega
  rw [List.length_map, hln] at hlz
  simp -dsimp only [zn.k4, B.zd1, V.zdm, B.zf, B.zg6, zd2 hbx1, Nat.zero_add, List.getElem?_cons_zero, List.set, List.getElem?_cons_succ, e2, hlz]
  refine ze.intro (fun n vs hh => ∃ j : Nat, j + n = k /\ vs = [.int .i64 (IntKind.i64.wrap (znu (((b.drop r.at_).take k).take j))), .int .i64 j] /\ hh = h1) k ?_ ⟨0, by simp, by simp [znu]; rfl, rfl⟩
  rintro Y n vs hh ⟨j, hn, rfl, rfl⟩ hY
  simp +contextual -dsimp
  refine B.zd (fun h3 => ?_) (fun h3 => ?_) <;> simp at h3
  ·obtain ⟨c, hc⟩ := zc5 (L := (b.drop r.at_).take k) (k := j) (by omega)
   have hj : j < (((b.drop r.at_).take k).map bc).length := by rw [List.length_map]; omega
   have hcl := u8_lt c
   have ec : IntKind.i64.wrap (c.toNat : Int) = c.toNat := wrap_i64 (by omega) (by omega)
   have e5 := e3.cell (get_map hc)
   have e6 : bS.c c = .int .u8 c.toNat := rfl
   simp +contextual -dsimp [e3.idxN hj, e5, e6, bin_shl (k := .i64) (j := .u64) (b := 8) (by omega) (by simp [IntKind.bits]), ec]
   rw [or_add _ _ (by omega) (by omega)]
   simp +contextual -dsimp [zgt (n := j) (by omega)]
   refine hY (n - 1) _ _ (by omega) ⟨j + 1, by omega, ?_, rfl⟩
   rw [take_succ hc, zoa, wrap_wrap]
   simp
  ·have hjk : j = k := by omega
   subst hjk
   rw [List.take_take, Nat.min_self]
   simp -dsimp only [zn.k1, B.zd1, V.zdm, B.zf, B.zg6, zd2 hbx1, Nat.zero_add, List.getElem?_cons_zero, List.set, List.getElem?_cons_succ, f2]
   refine ho1.zkj l.length ziv f3.zi (by simp) fun h4 ho4 _ => zk (hq _ ⟨w, R2, f3, ?_, hle, by simp only; omega, hbl⟩)
   rw [zs0] at ho4
   simpa [h2] using ho4
def zcc.Spec (C : CSem) (N : zN) : Prop := ∀ (hb h0 h : za) (l : List Ob) (p : AVal) (b : List UInt8) (r : Rdr) (Q : zQ), RwL hb h0 h l p b r ->
 (∀ h', RwL hb h0 h' l p b (zfu b r).2 -> Q (.str (zfu b r).1) h') -> C (N 440) [p] h Q
theorem zcc.spec (i : zcc.Imp C N) (s1 : zfz.Spec C N) : zcc.Spec C N := by
 intro hb h0 h l p b r Q hs hq
 apply i
 obtain ⟨z, R, hz, ho, hle, hr, hbl⟩ := hs
 obtain ⟨id, rfl, hbx⟩ := ho.zgp l.length ziv
 simp +contextual -dsimp [zd2 hbx]
 refine B.zd (fun h2 => ?_) (fun h2 => ?_)
 ·rw [show zfu b r = ([], r) by simp [zfu, h2]] at hq
  exact zk (hq _ ⟨z, R, hz, ho, hle, hr, hbl⟩)
 ·rw [show zfu b r = ((zff (b.drop r.at_)).1, ⟨r.at_ + (zff (b.drop r.at_)).2.1, !(zff (b.drop r.at_)).2.2⟩) by simp [zfu, h2]] at hq
  have hcl := zn9 (b.drop r.at_)
  simp +contextual -dsimp [zd2 hbx]
  refine s1 z _ _ _ _ (hz.mono (za.le_trans hle ho.le)) (by simp; omega) ?_
  simp +contextual -dsimp
  refine ho.zkj l.length ziv rfl (by simp) fun h1 ho1 _ => ?_
  rw [zs0] at ho1
  obtain ⟨id', e, hbx1⟩ := ho1.zgp l.length ziv
  cases e
  obtain ⟨w, R2, f2, f3, _⟩ := hz.zic (by omega) (lo := (zff (b.drop r.at_)).2.1) (hi := (b.drop r.at_).length) (a := some (.int .i64 ((zff (b.drop r.at_)).2.1 : Int))) (b := none) (.inr ⟨_, rfl⟩) (.inl ⟨rfl, by simp⟩) hcl (by simp)
  rw [List.take_length, List.drop_drop] at f3
  rw [List.length_drop] at hcl
  simp -dsimp only [B.zd1, V.zdm, B.zf, B.zg6, zd2 hbx1, Nat.zero_add, List.getElem?_cons_zero, List.getElem?_cons_succ, List.set, f2]
  refine ho1.zkj l.length ziv f3.zi (by simp) fun h4 ho4 _ => zk (hq _ ⟨w, R2, f3, ?_, hle, by simp only; omega, hbl⟩)
  rw [zs0] at ho4
  exact ho4
end Go.Ab
namespace Go.Ab
theorem be_congr {n m : Int} (h : n % 18446744073709551616 = m % 18446744073709551616) : ∀ k, k <= 8 -> be n k = be m k
 | 0, _ => rfl
 | k + 1, hk => by
  rw [be, be, be_congr h k (by omega)]
  congr 1
  refine byt_congr ?_
  rw [<- fdiv_u64 n k (by omega), <- fdiv_u64 m k (by omega), h]
section
variable {b post : List UInt8} {a : Nat}
end
theorem zvy (b : List UInt8) (r : Rdr) : 0 <= (rNum b 1 r).1 /\ (rNum b 1 r).1 <= 255 := by
 unfold rNum
 split
 ·simp
 ·rename_i h
  simp only [not_or] at h
  have := beVal_lt 1 ((b.drop r.at_).take 1) (by simp; omega)
  rw [wrap_i64 (by omega) (by omega)]
  omega
end Go.Ab
namespace Go.Ab
variable {C : CSem} {N : zN}
def zob (b : List UInt8) (r : Rdr) : Part × Rdr :=
 let c := zfu b r
 let q := rNum b 4 c.2
 (⟨c.1, q.1⟩, q.2)
def zmn (b c : List UInt8) (r : Rdr) : Itm × Rdr :=
 let f := rNum b 2 r
 let n := rNum b 1 f.2
 let ps := ze8 (zob b) n.1.toNat n.2
 let m := rNum b 1 ps.2
 let os := ze8 (zfu b) m.1.toNat m.2
 (⟨c, f.1, ps.1, os.1⟩, os.2)
def zk4 (b : List UInt8) (id : Int) (r : Rdr) : Lot × Rdr :=
 let c := zfu b r
 let f := rNum b 2 c.2
 let u := rNum b 2 f.2
 let q := rNum b 4 u.2
 let e := rNum b 1 q.2
 (⟨id, c.1, f.1, u.1, q.1, decide (e.1 = 1)⟩, e.2)
def zi7 (b : List UInt8) (id : Int) (r : Rdr) : Line × Rdr :=
 let c := zfu b r
 let q := rNum b 4 c.2
 let a := rNum b 2 q.2
 let k := rNum b 1 a.2
 let s := rNum b 1 k.2
 let d := rNum b 2 s.2
 let o := zfu b d.2
 (⟨id, c.1, q.1, a.1, k.1, byt s.1, IntKind.i64.wrap (d.1 - 1), o.1⟩, o.2)
theorem zi9 {T : Type} {one : Rdr -> T × Rdr} {t : Nat} {r : Rdr} (h : 0 < t -> r.bad = true) : ze8 one t r = ([], r) := by
 cases t with
 | zero => rfl
 | succ t => simp [ze8, h (by omega)]
def zba.Spec (C : CSem) (N : zN) : Prop := ∀ (hb h0 h : za) (p : AVal) (b c : List UInt8) (r : Rdr) (Q : zQ), RwL hb h0 h [] p b r ->
 (∀ a h', RwL hb h0 h' (ze3.obs false (zmn b c r).1 a) p b (zmn b c r).2 -> Q (.agg (ze3.cells (zmn b c r).1 a)) h') -> C (N 433) [p, .str c] h Q
theorem RwL.push {hb h0 h : za} {l : List Ob} {p : AVal} {b : List UInt8} {r : Rdr} {es bytes k : Nat} {x : AVal} {L : List (List AVal)} {cs : List AVal} {K : zQ} (s : RwL hb h0 h l p b r) (hk : l[k]? = some (.sl es x L [])) (hcs : cs.length = es) (hes : 0 < es) (hbm : (L.length + 1) * bytes <= 140737488355328) (hm : L.length + 1 <= maxLen)
  (hK : ∀ x' h', RwL hb h0 h' (l.set k (.sl es x' (L ++ [cs]) [])) p b r -> K x' h') : B.newO h (some cs) fun id h => B.appW h es bytes x (.sl id 0 0 1 es 1) K := by
 obtain ⟨z, R, hz, ho, hle⟩ := s
 have hl : k < l.length := (List.getElem?_eq_some_iff.1 hk).1
 have hk' : (l ++ [.box p [z, .bool r.bad]])[k]? = some (.sl es x L []) := by rw [List.getElem?_append_left hl]; exact hk
 refine ho.push k hk' hcs hes hbm hm fun x' h' o1 _ => hK x' h' ⟨z, R, hz, ?_, hle⟩
 rw [List.set_append_left _ _ hl] at o1
 exact o1
theorem zba.spec (i : zba.Imp C N) (s1 : zn.Spec C N) (s2 : zcc.Spec C N) : zba.Spec C N := by
 intro hb h0 h p b c r Q hs hq
 apply i
 try simp -dsimp only [zba.cps, zba.k5]
 refine s1 hb h0 h [] p b r 2 _ hs (by omega) fun h1 hs1 => ?_
 simp +contextual -dsimp
 refine s1 hb h0 h1 [] p b _ 1 _ hs1 (by omega) fun h2 hs2 => ?_
 have n2 := zvy b (rNum b 2 r).2
 unfold zmn at hq
 generalize rNum b 2 r = f at *
 obtain ⟨life, r1⟩ := f
 simp only at n2 hs1 hs2 hq ⊢
 generalize rNum b 1 r1 = g at *
 obtain ⟨n, r2⟩ := g
 simp only at n2 hs2 hq ⊢
 have hs3 : RwL hb h0 h2 [.sl 2 .nils [] []] p b r2 := by
  obtain ⟨z, R, hz, ho, hle⟩ := hs2
  exact ⟨z, R, hz, (ho.nils 2).perm (List.Perm.swap ..), hle⟩
 refine ze.intro (fun t vs hh => ∃ (x : AVal) (acc : List Part) (r : Rdr), vs = [.int .i64 (t : Int), .agg [.str c, .int .i64 life, x, .nils]] /\ acc.length + t <= 255 /\ acc ++ (ze8 (zob b) t r).1 = (ze8 (zob b) n.toNat r2).1 /\ (ze8 (zob b) t r).2 = (ze8 (zob b) n.toNat r2).2 /\ RwL hb h0 hh [.sl 2 x (acc.map Part.cs) []] p b r) n.toNat ?_
  ⟨.nils, [], r2, by rw [Int.toNat_of_nonneg n2.1], by simp; omega, rfl, rfl, hs3⟩
 rintro Y t vs hh ⟨x, acc, r, rfl, hal, e1, e2, hs⟩ hY
 obtain ⟨id, rfl, hbad⟩ := hs.ptr
 simp +contextual -dsimp [hbad]
 refine B.zd (fun hc => ?_) (fun hc => ?_) <;> simp at hc
 ·obtain ⟨t, rfl⟩ : ∃ u, t = u + 1 := ⟨t - 1, by omega⟩
  simp only [ze8, hc.2, Bool.false_eq_true, if_false] at e1 e2
  refine s2 hb h0 hh _ _ b r _ hs fun h3 hs3 => ?_
  simp +contextual -dsimp
  refine s1 hb h0 h3 _ _ b _ 4 _ hs3 (by omega) fun h4 hs4 => ?_
  simp +contextual -dsimp
  refine hs4.push (k := 0) rfl rfl (by omega) (by simp; omega) (by simp [maxLen]; omega) fun x' h5 hs5 => ?_
  have e4 : IntKind.i64.wrap (t : Int) = (t : Int) := by rw [wrap_i64 (by omega) (by omega)]
  have c5 : x'.zi = true := by
   obtain ⟨z, R, hz, ho, hle⟩ := hs5
   exact (ho.slAt 0 rfl).zi
  simp +contextual -dsimp [e4, c5]
  refine hY t _ _ (by omega) ⟨x', acc ++ [(zob b r).1], (zob b r).2, rfl, by simp; omega, ?_, e2, ?_⟩
  ·rw [<- e1, List.append_assoc]; rfl
  ·rw [List.map_append]; exact hs5
 ·rw [zi9 (by simpa using hc), List.append_nil] at e1
  rw [zi9 (by simpa using hc)] at e2
  simp only at e2
  subst e1
  rw [<- e2] at hq
  refine s1 hb h0 hh _ _ b r 1 _ hs (by omega) fun h3 hs3 => ?_
  have n3 := zvy b r
  generalize hps : (ze8 (zob b) n.toNat r2).1 = ps at *
  generalize rNum b 1 r = g at *
  obtain ⟨m, r3⟩ := g
  simp only at n3 hs3 hq ⊢
  have hs4 : RwL hb h0 h3 [.sl 2 x (ps.map Part.cs) [], .sl 1 .nils [] []] (.ptr id 0 0) b r3 := by
   obtain ⟨z, R, hz, ho, hle⟩ := hs3
   exact ⟨z, R, hz, (ho.nils 1).perm (.cons _ (List.Perm.swap ..)), hle⟩
  refine ze.intro (fun t vs hh => ∃ (y : AVal) (acc : List (List UInt8)) (r : Rdr), vs = [.int .i64 (t : Int), .agg [.str c, .int .i64 life, x, y]] /\ acc.length + t <= 255 /\ acc ++ (ze8 (zfu b) t r).1 = (ze8 (zfu b) m.toNat r3).1 /\ (ze8 (zfu b) t r).2 = (ze8 (zfu b) m.toNat r3).2 /\ RwL hb h0 hh [.sl 2 x (ps.map Part.cs) [], .sl 1 y (acc.map tc) []] (.ptr id 0 0) b r) m.toNat ?_
   ⟨.nils, [], r3, by rw [Int.toNat_of_nonneg n3.1], by simp; omega, rfl, rfl, hs4⟩
  rintro Z t2 vs h4 ⟨y, acc, r', rfl, hal2, e3, e4, hs5⟩ hZ
  obtain ⟨id', e, hbad⟩ := hs5.ptr
  cases e
  simp +contextual -dsimp [hbad]
  refine B.zd (fun hd => ?_) (fun hd => ?_) <;> simp at hd
  ·obtain ⟨t2, rfl⟩ : ∃ u, t2 = u + 1 := ⟨t2 - 1, by omega⟩
   simp only [ze8, hd.2, Bool.false_eq_true, if_false] at e3 e4
   refine s2 hb h0 h4 _ _ b r' _ hs5 fun h5 hs6 => ?_
   simp +contextual -dsimp
   refine hs6.push (k := 1) rfl rfl (by omega) (by simp; omega) (by simp [maxLen]; omega) fun x' h6 hs7 => ?_
   have e6 : IntKind.i64.wrap (t2 : Int) = (t2 : Int) := by rw [wrap_i64 (by omega) (by omega)]
   have c5 : x'.zi = true := by
    obtain ⟨z, R, hz, ho, hle⟩ := hs7
    exact (ho.slAt 1 rfl).zi
   simp +contextual -dsimp [e6, c5]
   refine hZ t2 _ _ (by omega) ⟨x', acc ++ [(zfu b r').1], (zfu b r').2, rfl, by simp; omega, ?_, e4, ?_⟩
   ·rw [<- e3, List.append_assoc]; rfl
   ·rw [List.map_append]; exact hs7
  ·rw [zi9 (by simpa using hd), List.append_nil] at e3
   rw [zi9 (by simpa using hd)] at e4
   simp only at e4
   subst e3
   rw [<- e4] at hq
   simp +contextual -dsimp
   exact zk (hq (x, y) _ hs5)
def zco.Spec (C : CSem) (N : zN) : Prop := ∀ (hb h0 h : za) (l : List Ob) (p : AVal) (b : List UInt8) (id : Int) (r : Rdr) (Q : zQ), RwL hb h0 h l p b r ->
 (∀ h', RwL hb h0 h' l p b (zk4 b id r).2 -> Q (.agg (zk4 b id r).1.cs) h') -> C (N 434) [p, .int .i64 id] h Q
theorem zco.spec (i : zco.Imp C N) (s1 : zn.Spec C N) (s2 : zcc.Spec C N) : zco.Spec C N := by
 intro hb h0 h l p b id r Q hs hq
 apply i
 try simp +contextual -dsimp
 refine s2 hb h0 h l p b r _ hs fun h1 hs1 => ?_
 simp +contextual -dsimp
 refine s1 hb h0 h1 l p b _ 2 _ hs1 (by omega) fun h2 hs2 => ?_
 refine s1 hb h0 h2 l p b _ 2 _ hs2 (by omega) fun h3 hs3 => ?_
 simp +contextual -dsimp
 refine s1 hb h0 h3 l p b _ 4 _ hs3 (by omega) fun h4 hs4 => ?_
 simp +contextual -dsimp
 refine s1 hb h0 h4 l p b _ 1 _ hs4 (by omega) fun h5 hs5 => ?_
 simp +contextual -dsimp
 exact zk (hq _ hs5)
def zcj.Spec (C : CSem) (N : zN) : Prop := ∀ (hb h0 h : za) (l : List Ob) (p : AVal) (b : List UInt8) (id : Int) (r : Rdr) (Q : zQ), RwL hb h0 h l p b r ->
 (∀ h', RwL hb h0 h' l p b (zi7 b id r).2 -> Q (.agg (zi7 b id r).1.cs) h') -> C (N 435) [p, .int .i64 id] h Q
theorem zcj.spec (i : zcj.Imp C N) (s1 : zn.Spec C N) (s2 : zcc.Spec C N) : zcj.Spec C N := by
 intro hb h0 h l p b id r Q hs hq
 apply i
 try simp +contextual -dsimp
 refine s2 hb h0 h l p b r _ hs fun h1 hs1 => ?_
 simp +contextual -dsimp
 refine s1 hb h0 h1 l p b _ 4 _ hs1 (by omega) fun h2 hs2 => ?_
 simp +contextual -dsimp
 refine s1 hb h0 h2 l p b _ 2 _ hs2 (by omega) fun h3 hs3 => ?_
 refine s1 hb h0 h3 l p b _ 1 _ hs3 (by omega) fun h4 hs4 => ?_
 simp +contextual -dsimp
 refine s1 hb h0 h4 l p b _ 1 _ hs4 (by omega) fun h5 hs5 => ?_
 simp +contextual -dsimp [zj1]
 refine s1 hb h0 h5 l p b _ 2 _ hs5 (by omega) fun h6 hs6 => ?_
 simp +contextual -dsimp
 refine s2 hb h0 h6 l p b _ _ hs6 fun h7 hs7 => ?_
 simp +contextual -dsimp
 exact zk (hq _ hs7)
end Go.Ab
namespace Go.Ab
variable {C : CSem} {N : zN}
def zbc.Spec (C : CSem) (N : zN) : Prop := ∀ (x : AVal) (L : List (List UInt8)) (R : List (List AVal)) (s : List UInt8) (h : za) (Q : zQ), SlX h 1 x (L.map tc) R -> L.length < 4611686018427387904 ->
 (∀ n : Int, (0 <= n ↔ s ∈ L) -> Q (.int .i64 n) h) -> C (N 445) [x, .str s] h Q
theorem zbc.spec (i : zbc.Imp C N) : zbc.Spec C N := by
 intro x L R s h Q hx hl hq
 apply i
 have hlx := hx.zj
 rw [List.length_map] at hlx
 simp -dsimp only [zbc.cps, zfa.cps, hlx, B.zf]
 refine ze.intro (fun n vs hh => ∃ k : Nat, k + n = L.length /\ vs = [.int .i64 (k : Int)] /\ hh = h /\ s ∉ L.take k) L.length ?_ ⟨0, by simp, rfl, rfl, by simp⟩
 rintro Y n vs hh ⟨k, hn, rfl, rfl, hno⟩ hY
 simp -dsimp only [zfa.l2, zfa.k1, lssN, B.zf]
 refine B.zd (fun hc => ?_) (fun hc => ?_)
 ·rw [decide_eq_true_eq] at hc
  obtain ⟨w, hw⟩ := zc5 hc
  have hk : k < (L.map tc).length := by simpa using hc
  have e1 : A.ldv hh (elp 1 x k 0) = some (.str w) := hx.cell (get_map hw)
  have e2 : V.idxS (opsS 16 (.str []) 0).es x (.int .i64 (k : Int)) = some (elp 1 x k 0) := hx.idxN hk
  have e3 : ∀ (p : AVal) (K : AVal -> Prop), (opsS 16 (.str []) 0).ld hh p K = B.pv (A.ldv hh p) K := fun _ _ => rfl
  simp -dsimp only [e2, e3, e1, B.zf, V.zhz]
  refine B.zd (fun hd => ?_) (fun hd => ?_)
  ·rw [decide_eq_true_eq] at hd
   subst hd
   exact zk (hq k ⟨fun _ => List.mem_of_getElem? hw, fun _ => by omega⟩)
  ·rw [decide_eq_false_iff_not] at hd
   simp -dsimp only [add1 (show k < 4611686018427387904 by omega), B.zf]
   refine hY (L.length - (k + 1)) _ _ (by omega) ⟨k + 1, by omega, rfl, rfl, ?_⟩
   rw [take_succ hw]
   simp [hno, hd]
 ·rw [decide_eq_false_iff_not] at hc
  have : k = L.length := by omega
  subst this
  rw [List.take_length] at hno
  exact zk (hq (-1) ⟨fun h => by omega, fun h => absurd h hno⟩)
def zu.Spec (C : CSem) (N : zN) : Prop := ∀ (x : AVal) (L : List (List UInt8)) (R : List (List AVal)) (s : List UInt8) (h : za) (Q : zQ), SlX h 1 x (L.map tc) R -> L.length < 4611686018427387904 ->
 Q (.bool (decide (s ∈ L))) h -> C (N 442) [x, .str s] h Q
theorem zu.spec (i : zu.Imp C N) (s1 : zbc.Spec C N) : zu.Spec C N := by
 intro x L R s h Q hx hl hq
 apply i
 simp -dsimp only [zu.cps, zme.cps]
 refine s1 x L R s h _ hx hl fun n hn => ?_
 simp -dsimp only [V.zsj, B.zf]
 rw [decide_eq_decide.2 hn]
 exact zk hq
def zdv.Spec (C : CSem) (N : zN) : Prop := ∀ (most : Nat) (x : AVal) (L : List (List UInt8)) (R : List (List AVal)) (h : za) (Q : zQ), SlX h 1 x (L.map tc) R -> L.length < 4611686018427387904 ->
 Q (.bool (zlr most L)) h -> C (N 441) [.int .i64 (most : Int), x] h Q
theorem zdv.spec (i : zdv.Imp C N) (s1 : zcg.Spec C N) (s2 : zu.Spec C N) : zdv.Spec C N := by
 intro most x L R h Q hx hl hq
 apply i
 have hlx := hx.zj
 rw [List.length_map] at hlx
 simp -dsimp only [zdv.cps, hlx, B.zf]
 refine ze.intro (fun n vs hh => ∃ k : Nat, k + n = L.length /\ vs = [.int .i64 (k : Int)] /\ hh = h /\ (L.take k).all zbm = true /\ (L.take k).Nodup) L.length ?_ ⟨0, by simp, rfl, rfl, rfl, by simp⟩
 rintro Y n vs hh ⟨k, hn, rfl, rfl, hall, hnd⟩ hY
 simp -dsimp only [zdv.l2, zdv.k1, lssN, B.zf]
 refine B.zd (fun hc => ?_) (fun hc => ?_)
 ·rw [decide_eq_true_eq] at hc
  obtain ⟨w, hw⟩ := zc5 hc
  have hk : k < (L.map tc).length := by simpa using hc
  have e1 : A.ldv hh (elp 1 x k 0) = some (.str w) := hx.cell (get_map hw)
  have e2 : V.idxS 1 x (.int .i64 (k : Int)) = some (elp 1 x k 0) := hx.idxN hk
  obtain ⟨z, R', e3, e4, _⟩ := hx.zic (by omega) (lo := 0) (hi := k) (a := none) (b := some (.int .i64 (k : Int))) (.inl ⟨rfl, rfl⟩) (.inr ⟨_, rfl⟩) (by omega) (by omega)
  rw [List.drop_zero] at e4
  simp -dsimp only [e2, e1, B.zg6, B.zf]
  refine s1 _ _ _ ?_
  simp +contextual -dsimp [e3]
  refine B.zeo (v := .bool (decide (w ∈ L.take k))) (fun _ Q hq => s2 z _ _ _ _ _ e4 (by simp; omega) hq) ?_
  simp -dsimp
  have step : zbm w = true -> w ∉ L.take k -> (L.take (k + 1)).all zbm = true /\ (L.take (k + 1)).Nodup := fun h1 h2 => by
   rw [take_succ hw]
   refine ⟨by simp only [List.all_append, hall, Bool.true_and, List.all_cons, List.all_nil, Bool.and_true, h1], ?_⟩
   rw [List.nodup_append]
   exact ⟨hnd, by simp, fun a ha b hb e => by rw [List.mem_singleton.1 hb] at e; subst e; exact h2 ha⟩
  refine B.zd (fun hd => ?_) (fun hd => ?_)
  ·have : zlr most L = false := by
    unfold zlr
    by_cases h1 : zbm w = true
    ·refine Bool.and_eq_false_iff.2 (.inr (Bool.and_eq_false_iff.2 (.inl (decide_eq_false fun h2 => ?_))))
     have h3 : w ∈ L.take k := by simpa [h1] using hd
     have h4 : (L.take (k + 1)).Nodup := h2.sublist (List.take_sublist _ _)
     rw [take_succ hw, List.nodup_append] at h4
     exact h4.2.2 w h3 w (by simp) rfl
    ·refine Bool.and_eq_false_iff.2 (.inl ?_)
     rw [<- Bool.not_eq_true, List.all_eq_true]
     exact fun h2 => h1 (h2 w (List.mem_of_getElem? hw))
   rw [this] at hq
   exact zk hq
  ·have h1 : zbm w = true /\ w ∉ L.take k := by
    cases h : zbm w <;> simp [h] at hd ⊢
    exact hd
   simp -dsimp only [add1 (show k < 4611686018427387904 by omega), B.zf]
   refine hY (L.length - (k + 1)) _ _ (by omega) ⟨k + 1, by omega, rfl, rfl, step h1.1 h1.2⟩
 ·rw [decide_eq_false_iff_not] at hc
  have : k = L.length := by omega
  subst this
  rw [List.take_length] at hall hnd
  simp -dsimp only [leqN, hlx, B.zf]
  have : zlr most L = decide (L.length <= most) := by unfold zlr; rw [hall, decide_eq_true hnd]; rfl
  rw [this] at hq
  exact zk hq
def zdf.Spec (C : CSem) (N : zN) : Prop := ∀ (t : Itm) (a : AVal × AVal) (h : za) (Q : zQ), ze3.at_ h t a -> Q (.bool (zil t)) h -> C (N 438) [.agg (ze3.cells t a)] h Q
theorem zdf.spec (i : zdf.Imp C N) (s1 : zdv.Spec C N) : zdf.Spec C N := by
 intro t a h Q ha hq
 obtain ⟨⟨R1, a1⟩, ⟨R2, a2⟩, a3, a4⟩ : (∃ R, SlX h 2 a.1 (t.zek.map Part.cs) R) /\ (∃ R, SlX h 1 a.2 (t.zd0.map tc) R) /\ t.ok := ha
 unfold few at a3 a4
 apply i
 have l1 := a1.zj
 rw [List.length_map] at l1
 simp -dsimp [ze3]
 intro id hid
 have o1 := (Owns.start h).zmz (id := id) (n := 1) (cp := 1) (es := 1) (cs := [.str t.Code]) (L := [t.Code].map tc) (R := []) hid (by simp) rfl (by simp) rfl
 refine o1.appW 0 rfl (a2.mono o1.le) (by omega) (by simp; omega) (by simp [maxLen]; omega) fun x2 h2 o2 _ => ?_
 have hx2 := o2.slAt 0 rfl
 have hx2 : SlX h2 1 x2 ((t.Code :: t.zd0).map tc) [] := hx2
 refine s1 5 x2 _ _ _ _ hx2 (by simp; omega) ?_
 simp -dsimp [l1]
 have fin : ∀ (b : Bool) (h' : za), h.le h' -> zil t = b -> dn Q (.bool b) h' := fun b h' hle e => by rw [e] at hq; exact zrk hle hq
 refine B.zd (fun hb => ?_) (fun hb => ?_)
 ·refine fin _ _ o2.le ?_
  have hb : zlr 5 (t.Code :: t.zd0) = false := by simpa using hb
  unfold zil; rw [hb]; rfl
 ·have hb : zlr 5 (t.Code :: t.zd0) = true := by simpa using hb
  simp +contextual -dsimp [l1]
  refine B.zd (fun hc => ?_) (fun hc => ?_)
  ·have hp : t.zek = [] := by simpa using hc
   simp +contextual -dsimp
   refine fin _ _ o2.le ?_
   unfold zil; rw [hb, hp]; simp
  ·have hp : t.zek ≠ [] := by simpa using hc
   have hk : zil t = (qtyB t && (decide (t.Life = 0) && zlr 8 (zul t))) := by unfold zil; rw [hb, decide_eq_false hp]; rfl
   simp -dsimp [l1]
   refine ze.intro (fun n vs hh => ∃ (k : Nat) (y : AVal), k + n = t.zek.length /\ vs = [y, .int .i64 (k : Int)] /\ Owns h hh [.sl 1 y (((t.zek.take k).map Part.Item).map tc) []] /\ (t.zek.take k).all (fun p => decide (1 <= p.Qty) && decide (p.Qty <= 1073741824)) = true) t.zek.length ?_ ⟨0, .nils, by simp, rfl, by simpa using ((Owns.start h2).nils 1).back o2.le, rfl⟩
   rintro Y n vs hh ⟨k, y, hn, rfl, o3, hall⟩ hY
   simp -dsimp only [zdf.l3, zdf.k2, lssN, B.zf]
   refine B.zd (fun hd => ?_) (fun hd => ?_)
   ·rw [decide_eq_true_eq] at hd
    obtain ⟨w, hw⟩ := zc5 hd
    have hk2 : k < (t.zek.map Part.cs).length := by simpa using hd
    have e1 := (a1.mono o3.le).elem (get_map hw)
    have e2 : V.idxS 2 a.1 (.int .i64 (k : Int)) = some (elp 2 a.1 k 0) := a1.idxN hk2
    simp +contextual -dsimp [e1, e2, - V.zej]
    have bad : (decide (w.Qty < 1) || decide (1073741824 < w.Qty)) = !(decide (1 <= w.Qty) && decide (w.Qty <= 1073741824)) := by
     rw [Bool.eq_iff_iff]; simp <;> omega
    refine B.zd (fun he => ?_) (fun he => ?_)
    ·refine fin _ _ o3.le ?_
     have : qtyB t = false := by
      unfold qtyB
      rw [List.all_eq_false]
      exact ⟨w, List.mem_of_getElem? hw, by rw [bad, Bool.not_eq_true'] at he; rw [he]; exact Bool.false_ne_true⟩
     rw [hk, this]; rfl
    ·refine o3.push 0 rfl rfl (by omega) (by simp; omega) (by simp [maxLen]; omega) fun y4 h4 o4 _ => ?_
     simp -dsimp only [add1 (show k < 4611686018427387904 by omega), B.zf]
     refine hY (t.zek.length - (k + 1)) _ _ (by omega) ⟨k + 1, y4, by omega, rfl, ?_, ?_⟩
     ·rw [take_succ hw, List.map_append, List.map_append]; exact o4
     ·rw [take_succ hw, List.all_append, hall]
      rw [bad] at he
      simpa using he
   ·rw [decide_eq_false_iff_not] at hd
    have : k = t.zek.length := by omega
    subst this
    rw [List.take_length] at o3 hall
    simp +contextual -dsimp
    refine B.zeo (v := .bool (zlr 8 (zul t))) (fun _ Q hq => s1 8 y _ _ _ _ (o3.slAt 0 rfl) (by simp; omega) hq) ?_
    simp -dsimp
    refine fin _ _ o3.le ?_
    rw [hk, show qtyB t = true from hall]; rfl
end Go.Ab
namespace Go.Ab
variable {C : CSem} {N : zN}
structure zk8 (h : za) (s : Sta) (x y z : AVal) : Prop where
 items : Dl ze3 h x s.zem
 lots : ∃ R, SlX h 6 y (s.Lots.map Lot.cs) R
 lines : ∃ R, SlX h 8 z (s.zel.map Line.cs) R
 n1 : s.zem.length <= 100000000
 n2 : s.Lots.length <= 100000000
 n3 : s.zel.length <= 100000000
theorem zk8.mono {h h' : za} {s : Sta} {x y z : AVal} (a : zk8 h s x y z) (hle : h.le h') : zk8 h' s x y z :=
 ⟨a.items.mono hle, a.lots.imp fun _ r => r.mono hle, a.lines.imp fun _ r => r.mono hle, a.n1, a.n2, a.n3⟩
abbrev zhq (s : Sta) (x y z : AVal) : List AVal := [.int .i64 s.Now, .int .i64 s.zg3, .int .i64 s.zf3, x, y, z]
theorem ordB_snoc {T : Type} {ok : T -> Bool} {lt : T -> T -> Bool} : ∀ (l : List T) (p : Option T) (x : T), ordB ok lt p (l ++ [x]) = (ordB ok lt p l && (ok x && zjq lt x ((l.getLast?).or p)))
 | [], p, x => by simp [ordB]
 | a :: l, p, x => by
  have := ordB_snoc (ok := ok) (lt := lt) l (some a) x
  have e : (l.getLast?).or (some a) = ((a :: l).getLast?).or p := by
   rw [List.getLast?_cons]; cases l.getLast? <;> rfl
  rw [List.cons_append, ordB, this, ordB, e]
  simp only [Bool.and_assoc]
theorem zkb {T : Type} {ok : T -> Bool} {lt : T -> T -> Bool} {l : List T} {k : Nat} {x : T} (hx : l[k]? = some x) : ordB ok lt none (l.take (k + 1)) = (ordB ok lt none (l.take k) && (ok x && (decide (k = 0) || zjq lt x l[k - 1]?))) := by
 rw [take_succ hx, ordB_snoc]
 have hk : k < l.length := (List.getElem?_eq_some_iff.1 hx).1
 cases k with
 | zero => simp [zjq]
 | succ k =>
  have e : ((l.take (k + 1)).getLast?).or none = l[k + 1 - 1]? := by
   rw [Option.or_none, List.getLast?_eq_getElem?, List.length_take, Nat.min_eq_left (by omega), List.getElem?_take_of_lt (by omega)]
  rw [e]; simp
theorem add0 : V.bin .add (.int .i64 0) (.int .i64 1) = some (.int .i64 ((0 + 1 : Nat) : Int)) := rfl
def zb1.Spec (C : CSem) (N : zN) : Prop := ∀ (s : Sta) (x y z : AVal) (h : za) (Q : zQ), zk8 h s x y z -> Q (.bool (zg5 s)) h -> C (N 426) [.agg (zhq s x y z)] h Q
theorem zb1.spec (i : zb1.Imp C N) (s1 : zdf.Spec C N) (s2 : ze5.Spec C N) (s3 : zes.Spec C N) : zb1.Spec C N := by
 intro s x y z h Q ha hq
 obtain ⟨hi, ⟨R1, hl⟩, ⟨R2, hn⟩, n1, n2, n3⟩ := ha
 apply i
 have l1 := hi.zj
 have l2 := hl.zj
 have l3 := hn.zj
 rw [List.length_map] at l2 l3
 have hx := hi.zi
 have hy := hl.zi
 have hz := hn.zi
 simp +contextual -dsimp [l1]
 refine ze.intro (fun n vs hh => ∃ k : Nat, k + n = s.zem.length /\ vs = [.bool (numsB s && ordB zil (fun a b => zkf a.Code b.Code) none (s.zem.take k)), .int .i64 (k : Int)] /\ hh = h) s.zem.length ?_ ⟨0, by simp, by unfold numsB; simp [ordB], rfl⟩
 rintro Y n vs hh ⟨k, hk, rfl, rfl⟩ hY
 simp -dsimp only [zb1.l6, zb1.k5, lssN, B.zf]
 refine B.zd (fun hc => ?_) (fun hc => ?_)
 ·rw [decide_eq_true_eq] at hc
  obtain ⟨w, hw⟩ := zc5 hc
  obtain ⟨a, ea⟩ := hi.get hw
  have e1 := ea.idx
  have e2 := ea.ldn
  have e3 : V.setN 0 4 (.agg (ze3.cells w a)) (.agg [.str [], .int .i64 0, .nils, .nils]) = some (.agg (ze3.cells w a)) := zlc ze3 w a
  simp -dsimp only [show V.idxS 4 x (.int .i64 (k : Int)) = some (elp 4 x k 0) from e1, show A.ldnv hh (elp 4 x k 0) 4 = some (.agg (ze3.cells w a)) from e2, e3, B.zhn, B.zf]
  have step := zkb (ok := zil) (lt := fun a b : Itm => zkf a.Code b.Code) hw
  generalize hP : (numsB s && ordB zil (fun a b => zkf a.Code b.Code) none (s.zem.take k)) = P at *
  simp +contextual -dsimp [ze3]
  refine B.zeo (v := .bool (zil w)) (fun _ Q hq => s1 w a _ _ ea.at_ hq) ?_
  have fin : ∀ b : Bool, b = (P && (zil w && (decide (k = 0) || zjq (fun a b : Itm => zkf a.Code b.Code) w s.zem[k - 1]?))) -> Y [.bool b, .int .i64 ((k + 1 : Nat) : Int)] hh := fun b e => by
   refine hY (s.zem.length - (k + 1)) _ _ (by omega) ⟨k + 1, by omega, ?_, rfl⟩
   rw [step, <- Bool.and_assoc, hP, <- e]
  by_cases h0 : k = 0
  ·subst h0
   simp +contextual -dsimp [- V.zej, add0]
   refine fin _ (by simp)
  ·obtain ⟨u, hu⟩ := zc5 (L := s.zem) (k := k - 1) (by omega)
   obtain ⟨c, ec⟩ := hi.get hu
   have sk := sub1 (a := k) (by omega) (by omega)
   have f1 : V.idxS 4 x (.int .i64 ((k - 1 : Nat) : Int)) = some (elp 4 x (k - 1) 0) := ec.idx
   have f2 : V.fieldAddr 0 (elp 4 x (k - 1) 0) = some (elp 4 x (k - 1) 0) := ec.fld 0 0
   have f3 : A.ldv hh (elp 4 x (k - 1) 0) = some (.str u.Code) := ec.ld 0 (by decide)
   simp +contextual -dsimp [- V.zej, - V.zi3, add1 (show k < 4611686018427387904 by omega), sk, h0, f1, f2, f3, V.bin_slss, ze3]
   refine fin _ (by rw [hu, decide_eq_false h0]; simp [zjq, Bool.and_assoc])
 ·rw [decide_eq_false_iff_not] at hc
  have : k = s.zem.length := by omega
  subst this
  rw [List.take_length]
  generalize hP1 : (numsB s && ordB zil (fun a b => zkf a.Code b.Code) none s.zem) = P1
  simp +contextual -dsimp [l2]
  refine ze.intro (fun n vs h2 => ∃ k : Nat, k + n = s.Lots.length /\ vs = [.bool (P1 && ordB zfy (fun a b => decide (a.Id < b.Id)) none (s.Lots.take k)), .int .i64 (k : Int)] /\ h2 = hh) s.Lots.length ?_ ⟨0, by simp, by simp [ordB], rfl⟩
  rintro Y2 n2 vs h2 ⟨k, hk2, rfl, rfl⟩ hY
  simp -dsimp only [zb1.l4, zb1.k3, lssN, B.zf]
  refine B.zd (fun hc => ?_) (fun hc => ?_)
  ·rw [decide_eq_true_eq] at hc
   obtain ⟨w, hw⟩ := zc5 hc
   have hkl : k < (s.Lots.map Lot.cs).length := by simpa using hc
   have e1 : V.idxS 6 y (.int .i64 (k : Int)) = some (elp 6 y k 0) := hl.idxN hkl
   have e2 := hl.elem (get_map hw)
   have step := zkb (ok := zfy) (lt := fun a b : Lot => decide (a.Id < b.Id)) hw
   generalize hP : (P1 && ordB zfy (fun a b => decide (a.Id < b.Id)) none (s.Lots.take k)) = P at *
   simp +contextual -dsimp [e1, e2]
   refine B.zeo (v := .bool (zfy w)) (fun _ Q hq => s2 w _ _ hq) ?_
   have fin : ∀ b : Bool, b = (P && (zfy w && (decide (k = 0) || zjq (fun a b : Lot => decide (a.Id < b.Id)) w s.Lots[k - 1]?))) -> Y2 [.bool b, .int .i64 ((k + 1 : Nat) : Int)] h2 := fun b e => by
    refine hY (s.Lots.length - (k + 1)) _ _ (by omega) ⟨k + 1, by omega, ?_, rfl⟩
    rw [step, <- Bool.and_assoc, hP, <- e]
   by_cases h0 : k = 0
   ·subst h0
    simp +contextual -dsimp [- V.zej, add0]
    refine fin _ (by simp)
   ·obtain ⟨u, hu⟩ := zc5 (L := s.Lots) (k := k - 1) (by omega)
    have sk := sub1 (a := k) (by omega) (by omega)
    have hku : k - 1 < (s.Lots.map Lot.cs).length := by simp; omega
    have f1 : V.idxS 6 y (.int .i64 ((k - 1 : Nat) : Int)) = some (elp 6 y (k - 1) 0) := hl.idxN hku
    have f2 : V.fieldAddr 0 (elp 6 y (k - 1) 0) = some (elp 6 y (k - 1) 0) := hl.zmk hku 0 0
    have f3 : A.ldv h2 (elp 6 y (k - 1) 0) = some (.int .i64 u.Id) := hl.ldv (get_map hu) (by omega)
    simp +contextual -dsimp [- V.zej, - V.zi3, add1 (show k < 4611686018427387904 by omega), sk, h0, f1, f2, f3]
    refine fin _ (by rw [hu, decide_eq_false h0]; simp [zjq, Bool.and_assoc])
  ·rw [decide_eq_false_iff_not] at hc
   have : k = s.Lots.length := by omega
   subst this
   rw [List.take_length]
   generalize hP2 : (P1 && ordB zfy (fun a b => decide (a.Id < b.Id)) none s.Lots) = P2
   simp +contextual -dsimp [l3]
   refine ze.intro (fun n vs h3 => ∃ k : Nat, k + n = s.zel.length /\ vs = [.bool (P2 && ordB zev (fun a b => decide (a.Id < b.Id)) none (s.zel.take k)), .int .i64 (k : Int)] /\ h3 = h2) s.zel.length ?_ ⟨0, by simp, by simp [ordB], rfl⟩
   rintro Y3 n4 vs h3 ⟨k, hk3, rfl, rfl⟩ hY
   simp -dsimp only [zb1.l2, zb1.k1, lssN, B.zf]
   refine B.zd (fun hc => ?_) (fun hc => ?_)
   ·rw [decide_eq_true_eq] at hc
    obtain ⟨w, hw⟩ := zc5 hc
    have hkl : k < (s.zel.map Line.cs).length := by simpa using hc
    have e1 : V.idxS 8 z (.int .i64 (k : Int)) = some (elp 8 z k 0) := hn.idxN hkl
    have e2 := hn.elem (get_map hw)
    have step := zkb (ok := zev) (lt := fun a b : Line => decide (a.Id < b.Id)) hw
    generalize hP : (P2 && ordB zev (fun a b => decide (a.Id < b.Id)) none (s.zel.take k)) = P at *
    simp +contextual -dsimp [e1, e2]
    refine B.zeo (v := .bool (zev w)) (fun _ Q hq => s3 w _ _ hq) ?_
    have fin : ∀ b : Bool, b = (P && (zev w && (decide (k = 0) || zjq (fun a b : Line => decide (a.Id < b.Id)) w s.zel[k - 1]?))) -> Y3 [.bool b, .int .i64 ((k + 1 : Nat) : Int)] h3 := fun b e => by
     refine hY (s.zel.length - (k + 1)) _ _ (by omega) ⟨k + 1, by omega, ?_, rfl⟩
     rw [step, <- Bool.and_assoc, hP, <- e]
    by_cases h0 : k = 0
    ·subst h0
     simp +contextual -dsimp [- V.zej, add0]
     refine fin _ (by simp)
    ·obtain ⟨u, hu⟩ := zc5 (L := s.zel) (k := k - 1) (by omega)
     have sk := sub1 (a := k) (by omega) (by omega)
     have hku : k - 1 < (s.zel.map Line.cs).length := by simp; omega
     have f1 : V.idxS 8 z (.int .i64 ((k - 1 : Nat) : Int)) = some (elp 8 z (k - 1) 0) := hn.idxN hku
     have f2 : V.fieldAddr 0 (elp 8 z (k - 1) 0) = some (elp 8 z (k - 1) 0) := hn.zmk hku 0 0
     have f3 : A.ldv h3 (elp 8 z (k - 1) 0) = some (.int .i64 u.Id) := hn.ldv (get_map hu) (by omega)
     simp +contextual -dsimp [- V.zej, - V.zi3, add1 (show k < 4611686018427387904 by omega), sk, h0, f1, f2, f3]
     refine fin _ (by rw [hu, decide_eq_false h0]; simp [zjq, Bool.and_assoc])
   ·rw [decide_eq_false_iff_not] at hc
    have : k = s.zel.length := by omega
    subst this
    rw [List.take_length]
    refine zk ?_
    have e : (P2 && ordB zev (fun a b => decide (a.Id < b.Id)) none s.zel) = zg5 s := by
     rw [<- hP2, <- hP1]; unfold zg5 zu1 lotsB linesB; simp only [Bool.and_assoc]
    rw [e]; exact hq
end Go.Ab
namespace Go.Ab
variable {C : CSem} {N : zN}
theorem zj4 {h : za} {x : AVal} {L : List Row} (hx : Dl rowK h x L) {i : Nat} {r : Row} (hr : L[i]? = some r) : ∃ k v, V.idxS 2 x (.int .i64 (i : Int)) = some (elp 2 x i 0) /\ A.ldnv h (elp 2 x i 0) 2 = some (.agg [k, v]) /\ V.fieldAddr 0 (elp 2 x i 0) = some (elp 2 x i 0) /\
  V.fieldAddr 1 (elp 2 x i 0) = some (elp 2 x i 1) /\ A.ldv h (elp 2 x i 0) = some k /\ A.ldv h (elp 2 x i 1) = some v /\ Bs h k r.Key /\ Bs h v r.Value := by
 obtain ⟨a, ea⟩ := hx.get hr
 exact ⟨a.1, a.2, ea.idx, ea.ldn, ea.fld 0 0, ea.fld 0 1, ea.ld 0 (by decide), ea.ld 1 (by decide), ea.at_.1, ea.at_.2⟩
theorem lenZ {α : Type} [DecidableEq α] (s : List α) : decide ((s.length : Int) = 0) = decide (s = []) := by
 cases s with
 | nil => rfl
 | cons a s => simp; omega
def zdn.Spec (C : CSem) (N : zN) : Prop := ∀ (x y : AVal) (a b : List UInt8) (h : za) (Q : zQ), Bs h x a -> Bs h y b -> Q (.int .i64 (cmpB a b)) h -> C (N 274) [x, y] h Q
theorem zdn.spec (i : zdn.Imp C N) (i2 : ziq.Imp C N) : zdn.Spec C N := fun x y a b h Q ⟨⟨R, hx⟩, _⟩ ⟨⟨S, hy⟩, _⟩ hq =>
 i x y h Q (i2 x y a b R S h _ hx hy (zk hq))
def zdy.Spec (C : CSem) (N : zN) : Prop := ∀ (x y : AVal) (a b : List UInt8) (h : za) (Q : zQ), Bs h x a -> Bs h y b -> Q (.bool (decide (a = b))) h -> C (N 273) [x, y] h Q
theorem zdy.spec (i : zdy.Imp C N) : zdy.Spec C N := fun x y a b h Q ⟨⟨R, hx⟩, _⟩ ⟨⟨S, hy⟩, _⟩ hq => by
 apply i
 simp -dsimp only [zdy.cps, zdz hx, zdz hy, V.zhz, B.zf]
 exact zk hq
theorem zso {h : za} {s : List UInt8} {K : zQ} (hs : s.length <= far) (hk : ∀ x' h', Owns h h' [bOb false x' s] -> K x' h') : B.zgy h (.str s) K := by
 refine ⟨by unfold far at hs; omega, fun id hid => hk _ _ ?_⟩
 exact (Owns.start h).zmz (id := id) (n := s.length) (cp := s.length) (es := 1) (cs := s.map fun b => .int .u8 b.toNat) (L := s.map bc) (R := []) hid (by simp) (by simp) (by simp) (by rw [List.append_nil, bc_flat])
end Go.Ab
namespace Go.Ab
variable {C : CSem} {N : zN}
def Kp2 (h h' : za) (p : AVal) (o : Option Nat) : Prop := match o with
 | none => ∃ x, A.ldv h p = some x /\ A.ldv h' p = some x
 | some n => ∃ x, A.ldnv h p n = some x /\ A.ldnv h' p n = some x
theorem keepD2 {h h' : za} {p q : AVal} {o u : Option Nat} {K : zQ} {v : AVal} (h1 : Kp2 h h' p o) (h2 : Kp2 h h' q u) (hk : K v h') : B.zk5 h [(p, o), (q, u)] K v h' := by
 refine ⟨fun r hr => ?_, hk⟩
 rcases List.mem_cons.1 hr with rfl | hr
 ·unfold Kp2 at h1; cases o <;> exact h1
 ·rw [List.mem_singleton.1 hr]; unfold Kp2 at h2; cases u <;> exact h2
theorem keepD1 {h h' : za} {p : AVal} {o : Option Nat} {K : zQ} {v : AVal} (h1 : Kp2 h h' p o) (hk : K v h') : B.zk5 h [(p, o)] K v h' := by
 refine ⟨fun r hr => ?_, hk⟩
 rw [List.mem_singleton.1 hr]; unfold Kp2 at h1; cases o <;> exact h1
theorem Owns.rebase {h0 h h' : za} {l l' : List Ob} (ho : Owns h0 h l) (hn : Owns h h' l') : ∃ h1 : za, h0.le h1 /\ h1.le h' /\ Owns h1 h' l /\ zth h1 l' := by
 obtain ⟨q1, q2⟩ := ((ho.join hn).perm List.perm_append_comm).out
 exact ⟨_, q1.le, q2.le, q2, q1.is⟩
structure ElD (C : CSem) (E : zfj) (Mk : za -> Int -> Int -> List AVal -> Prop) (v : List AVal -> AVal) : Prop where
 pos : 0 < E.es
 zlen : E.z.length = E.es
 len : ∀ {h : za} {k i : Int} {c : List AVal}, Mk h k i c -> c.length = E.es
 mono : ∀ {h h' : za} {k i : Int} {c : List AVal}, h.le h' -> Mk h k i c -> Mk h' k i c
 new : ∀ {h : za} {k i : Int} {c : List AVal}, Mk h k i c -> zcr [(0, E.kp, v c)] (repL 1 E.z) = some c
 call : ∀ (k i : Int) (h : za) (Q : zQ), (∀ c h' l, Owns h h' l -> (∀ h1, zth h1 l -> Mk h1 k i c) -> Q (v c) h') -> C E.f [.int .i64 k, .int .i64 i] h Q
 ld : ∀ {h : za} {x : AVal} {L R : List (List AVal)} {i : Nat} {c : List AVal} {K : AVal -> Prop}, SlX h E.es x L R -> L[i]? = some c -> K (v c) -> E.ld h (elp E.es x i 0) K
 kpt : ∀ {h h' : za} {x : AVal} {L R : List (List AVal)} {i : Nat} {c : List AVal}, SlX h E.es x L R -> SlX h' E.es x L R -> L[i]? = some c -> Kp2 h h' (elp E.es x i 0) E.kp
 st : ∀ {h : za} {x : AVal} {L R : List (List AVal)} {i : Nat} {c c0 : List AVal} {k j : Int} {K : za -> Prop}, SlX h E.es x L R -> (∀ id b, foot x = some id -> h id = some b -> b.own = true) -> L[i]? = some c0 -> Mk h k j c ->
  (∀ h', SlX h' E.es x (L.set i c) R -> (∀ id b, foot x = some id -> h' id = some b -> b.own = true) -> But x h h' -> K h') -> E.st h (elp E.es x i 0) (v c) K
 eq : ∀ {h : za} {k i : Int} {c c' : List AVal} {K : zQ}, Mk h k i c -> Mk h k i c' -> K (.bool true) h -> E.eq h (v c) (v c') K
def zkm (Mk : za -> Int -> Int -> List AVal -> Prop) (h : za) (k s : Nat) (D : List (List AVal)) : Prop := ∀ (i : Nat) (c : List AVal), D[i]? = some c -> Mk h (k : Int) ((s + i : Nat) : Int) c
section
variable {E : zfj} {Mk : za -> Int -> Int -> List AVal -> Prop} {v : List AVal -> AVal} {h0 h h' : za} {k s : Nat} {D : List (List AVal)}
theorem zkm.mono (S : ElD C E Mk v) (m : zkm Mk h k s D) (hle : h.le h') : zkm Mk h' k s D := fun i c hc => S.mono hle (m i c hc)
theorem zkm.nil (Mk : za -> Int -> Int -> List AVal -> Prop) (h : za) (k s : Nat) : zkm Mk h k s [] := fun i c hc => by simp at hc
theorem zkm.snoc {c : List AVal} (m : zkm Mk h k s D) (hc : Mk h (k : Int) ((s + D.length : Nat) : Int) c) : zkm Mk h k s (D ++ [c]) := fun i d hd => by
 rw [List.getElem?_append] at hd
 split at hd
 ·exact m i d hd
 ·rename_i hlt
  have hi : i - D.length = 0 := by
   cases e : i - D.length with
   | zero => rfl
   | succ j => rw [e] at hd; simp at hd
  rw [hi] at hd
  simp only [List.getElem?_cons_zero, Option.some.injEq] at hd
  subst hd
  have : i = D.length := by omega
  subst this; exact hc
theorem zkm.append {D' : List (List AVal)} (m : zkm Mk h k s D) (m' : zkm Mk h k (s + D.length) D') : zkm Mk h k s (D ++ D') := fun i d hd => by
 rw [List.getElem?_append] at hd
 split at hd
 ·exact m i d hd
 ·have := m' _ _ hd
  rwa [show s + D.length + (i - D.length) = s + i by omega] at this
end
structure FD (E : zfj) (h0 h : za) (v5 : AVal) (n : Nat) (xs : Nat -> AVal) (X : Nat -> List (List AVal)) (ys : Nat -> AVal) (F : Nat -> List (List AVal)) (gs : Nat -> AVal) : Prop where
 own : Owns h0 h (Objs E.es n ys F (fun _ => []) ++ [.sl 1 v5 (zfw n fun j => [gs j]) []])
 old : ∀ j, j < n -> Old h E.es (xs j) (X j) (ys j) (F j)
section
variable {E : zfj} {Mk : za -> Int -> Int -> List AVal -> Prop} {v : List AVal -> AVal} {h0 h h' : za} {x v5 : AVal} {n k : Nat} {xs ys gs : Nat -> AVal} {X F : Nat -> List (List AVal)} {W : List (List AVal)} {Q : zQ}
theorem FD.grow (fs : FD E h0 h v5 n xs X ys F gs) (hle : h.le h') : FD E h0 h' v5 n xs X ys F gs := ⟨fs.own.grow hle, fun j hj => (fs.old j hj).mono hle⟩
theorem FD.rebase (fs : FD E h0 h v5 n xs X ys F gs) {l' : List Ob} (hn : Owns h h' l') : ∃ h1 : za, h0.le h1 /\ h1.le h' /\ FD E h1 h' v5 n xs X ys F gs /\ zth h1 l' := by
 obtain ⟨h1, a, b, o, c⟩ := fs.own.rebase hn
 exact ⟨h1, a, b, ⟨o, fun j hj => (fs.old j hj).mono hn.le⟩, c⟩
theorem FD.gAt (fs : FD E h0 h v5 n xs X ys F gs) : SlX h 1 v5 (zfw n fun j => [gs j]) [] := fs.own.slAt n Objs.getL
theorem FD.yAt (fs : FD E h0 h v5 n xs X ys F gs) (hk : k < n) : SlX h E.es (ys k) (F k) [] := fs.own.slAt k (Objs.getA hk)
theorem FD.turn (fs : FD E h0 h v5 n xs X ys F gs) (hk : k < n) {y : AVal} {L : List (List AVal)} (h1 : SlX h' E.es y L []) (h2 : ∀ id b, foot y = some id -> h' id = some b -> b.own = true)
  (h3 : ∀ j b, h j = some b -> foot (ys k) ≠ some j -> h' j = some b) (h4 : foot y = foot (ys k) \/ ∀ id, foot y = some id -> h id = none) (h5 : Old h' E.es (xs k) (X k) y L) : FD E h0 h' v5 n xs X (upf ys k y) (upf F k L) gs := by
 refine ⟨?_, fun j hj => ?_⟩
 ·have := fs.own.turn k (Objs.getA hk) (o' := .sl E.es y L []) h1 h2 h3 h4
  rwa [Objs.setA hk, ztz] at this
 ·by_cases e : j = k
  ·subst e; rw [zeg, zeg]; exact h5
  ·rw [zg4 _ _ e, zg4 _ _ e]
   exact (fs.old j hj).other (z := ys k) h3 (fs.own.ne (Objs.getA hj) (Objs.getA hk) e)
theorem FD.store (fs : FD E h0 h v5 n xs X ys F gs) (hk : k < n) {y : AVal} (hy : y.zi = true) {K : za -> Prop} (hK : ∀ h', FD E h0 h' v5 n xs X ys F (upf gs k y) -> K h') : A.st h (elp 1 v5 k 0) y K := by
 refine fs.own.st n Objs.getL (zlp _ hk) (by omega) hy fun h' ho hb => hK h' ⟨?_, fun j hj => ?_⟩
 ·rw [Objs.setL] at ho
  have e : (zfw n fun j => [gs j]).set k ([gs k].set 0 y) = zfw n fun j => [upf gs k y j] := by
   rw [fills_set]
   refine zu7 fun j hj => ?_
   unfold upf
   split <;> rfl
  rwa [e] at ho
 ·exact (fs.old j hj).other hb (fs.own.ne (Objs.getA hj) Objs.getL (by omega))
theorem FD.push (S : ElD C E Mk v) (fs : FD E h0 h v5 n xs X ys F gs) (hk : k < n) {cs : List AVal} (hcs : cs.length = E.es) (hb : ((F k).length + 1) * E.bytes <= 140737488355328) (hl : (F k).length + 1 <= maxLen) {K : zQ}
  (hK : ∀ y h', FD E h0 h' v5 n xs X (upf ys k y) (upf F k (F k ++ [cs])) gs -> K y h') : A.newO h (some cs) fun i h => A.appW h E.es E.bytes (ys k) (.sl i 0 0 1 E.es 1) K := fun i hi => by
 have fg := fs.grow (zhf (zee cs) hi)
 refine (fg.yAt hk).appW2 (fg.own.zl1 k (Objs.getA hk)) (M := [cs]) (R' := []) (SlX.lit (zbj ..) (by simpa using hcs) rfl (by simp) (by simp)) S.pos (by simpa using hb) (by simpa using hl) fun y h' h1 h2 h3 h4 h5 => ?_
 exact hK y h' (fg.turn hk h1 h2 h3 h4 (h5 _ _ (fg.old k hk)))
theorem ls_kp2 (hx : SlX h 1 x (zfw n fun j => [xs j]) W) (hx' : SlX h' 1 x (zfw n fun j => [xs j]) W) (hk : k < n) : Kp2 h h' (elp 1 x k 0) none := ⟨_, zji hx hk, zji hx' hk⟩
theorem dlat5 (S : ElD C E Mk v) (hx : SlX h0 1 x (zfw n fun j => [xs j]) W) (fs : FD E h0 h v5 n xs X ys F gs) (hn : n <= 100000000) (hl : ∀ j, j < n -> (X j).length <= 4611686018427380000)
  (hgs : ∀ j, j < n -> gs j = ys j) (mX : ∀ j, j < n -> zkm Mk h0 j 0 (X j)) (mF : ∀ j i c, j < n -> i < (X j).length -> (F j)[i]? = some c -> Mk h0 (j : Int) (i : Int) c) (lF : ∀ j, j < n -> (X j).length <= (F j).length) (hq : ∀ h', h0.le h' -> Q (.bool true) h') : ze (zr.l15 E C Q x v5) [.int .i64 0] h := by
 refine ze.intro (fun t vs hh => ∃ k : Nat, k + t = n /\ vs = [.int .i64 k] /\ h.le hh) n ?_ ⟨0, by simp, by simp, za.le_refl h⟩
 rintro Y t vs hh ⟨k, ht, rfl, hle⟩ hY
 have fs1 := fs.grow hle
 have hx' := hx.mono fs1.own.le
 simp -dsimp [zkx hx']
 refine B.zd (fun hb => ?_) (fun hb => ?_) <;> simp -dsimp at hb ⊢
 ·refine ze.intro (fun t vs h2 => ∃ i : Nat, i + t = (X k).length /\ vs = [.int .i64 i] /\ h.le h2) (X k).length ?_ ⟨0, by simp, by simp, hle⟩
  rintro Z t' vs h3 ⟨i, hi, rfl, hle3⟩ hZ
  have f3 := fs.grow hle3
  have hx' := hx.mono f3.own.le
  have hold := (f3.old k hb).at_
  have hlk := hl k hb
  have hlx := hold.zj
  simp -dsimp [zgm hx' hb, zji hx' hb, hlx]
  refine B.zd (fun hc => ?_) (fun hc => ?_) <;> simp -dsimp at hc ⊢
  ·have hyk := f3.yAt hb
   have hlF := lF k hb
   obtain ⟨c1, hc1⟩ := zc5 (L := X k) (k := i) hc
   obtain ⟨c2, hc2⟩ := zc5 (L := F k) (k := i) (by omega)
   have m1 := mX k hb i c1 hc1
   have m2 := mF k i c2 hb hc hc2
   rw [Nat.zero_add] at m1
   have e1 : V.idxS E.es (xs k) (.int .i64 (i : Int)) = some (elp E.es (xs k) i 0) := hold.idxN hc
   have e2 : V.idxS E.es (ys k) (.int .i64 (i : Int)) = some (elp E.es (ys k) i 0) := hyk.idxN (by omega)
   simp -dsimp only [zgm hx' hb, zji hx' hb, e1, B.zf, B.zg6]
   refine S.ld hold hc1 ?_
   refine S.call _ _ _ _ fun c4 h4 l4 o4 mk4 => ?_
   have f4 := f3.grow o4.le
   have hx4 := hx.mono f4.own.le
   refine keepD2 (ls_kp2 hx' hx4 hb) (S.kpt hold (hold.mono o4.le) hc1) ?_
   refine S.eq (S.mono f4.own.le m1) (mk4 h4 o4.is) ?_
   have e3 := zji f4.gAt hb
   rw [hgs k hb] at e3
   have hyk4 := f4.yAt hb
   simp -dsimp [zgm f4.gAt hb, e3, e2]
   refine S.ld hyk4 hc2 ?_
   refine S.call _ _ _ _ fun c5 h5 l5 o5 mk5 => ?_
   have f5 := f4.grow o5.le
   refine keepD2 (ls_kp2 f4.gAt f5.gAt hb) (S.kpt hyk4 (f5.yAt hb) hc2) ?_
   simp -dsimp
   refine S.eq (S.mono f5.own.le m2) (mk5 h5 o5.is) ?_
   simp -dsimp [zgt (n := i) (by omega)]
   exact hZ ((X k).length - (i + 1)) _ _ (by omega) ⟨i + 1, by omega, by simp, za.le_trans hle3 (za.le_trans o4.le o5.le)⟩
  ·simp -dsimp [zgt (n := k) (by omega)]
   exact hY (n - (k + 1)) _ _ (by omega) ⟨k + 1, by omega, by simp, hle3⟩
 ·exact hq _ fs1.own.le
theorem dlat4 (S : ElD C E Mk v) (hx : SlX h0 1 x (zfw n fun j => [xs j]) W) (fs : FD E h0 h v5 n xs X ys F gs) (hn : n <= 100000000) (hl : ∀ j, j < n -> (X j).length <= 4611686018427380000 /\ ((X j).length + 64) * E.bytes <= 140737488355328)
  (hgs : ∀ j, j < n -> gs j = ys j) (mX : ∀ j, j < n -> zkm Mk h0 j 0 (X j)) (mF : ∀ j i c, j < n -> i < (X j).length -> (F j)[i]? = some c -> Mk h0 (j : Int) (i : Int) c) (lF : ∀ j, j < n -> (X j).length <= (F j).length) (hq : ∀ h', h0.le h' -> Q (.bool true) h') : ze (zr.l40 E C Q x v5) [.int .i64 0] h := by
 refine ze.intro (fun t vs hh => ∃ (k : Nat) (ys gs : Nat -> AVal) (F : Nat -> List (List AVal)), k + t = n /\ vs = [.int .i64 k] /\ FD E h0 hh v5 n xs X ys F gs /\ (∀ j, j < n -> gs j = ys j) /\ (∀ j i c, j < n -> i < (X j).length -> (F j)[i]? = some c -> Mk h0 (j : Int) (i : Int) c) /\ ∀ j, j < n -> (X j).length <= (F j).length) n ?_
  ⟨0, ys, gs, F, by simp, by simp, fs, hgs, mF, lF⟩
 rintro Y t vs h ⟨k, ys, gs, F, ht, rfl, fs, hgs, mF, lF⟩ hY
 have hx' := hx.mono fs.own.le
 simp -dsimp [zkx hx']
 refine B.zd (fun hb => ?_) (fun hb => ?_) <;> simp -dsimp at hb ⊢
 ·have hlk := hl k hb
  have h64 : 64 * E.bytes <= 140737488355328 := Nat.le_trans (Nat.mul_le_mul_right _ (by omega)) hlk.2
  refine ⟨S.pos, (Owns.start h).mks (es := E.es) S.zlen (by omega) (by omega) (by omega) (by omega) fun y h1 ho1 => ?_⟩
  simp only [List.nil_append] at ho1
  refine ze.intro (fun t vs hh => ∃ (i : Nat) (hb0 : za) (M : List (List AVal)), i + t = 64 /\ vs = [.int .i64 i] /\ h.le hb0 /\ M.length = i /\ ∃ R, Owns hb0 hh [.sl E.es y (M ++ (zfw 64 fun _ => E.z).drop i) R]) 64 ?_ ⟨0, h, [], by simp, by simp, za.le_refl h, rfl, _, by simpa using ho1⟩
  rintro Z t' vs hh ⟨i, hb0, M, hi, rfl, hle0, hM, R, ho⟩ hZ
  simp -dsimp
  refine B.zd (fun hc => ?_) (fun hc => ?_) <;> simp -dsimp at hc ⊢
  ·have e1 : IntKind.i64.wrap ((k : Int) + n) = ((k + n : Nat) : Int) := by rw [wrap_i64 (by omega) (by omega)]; omega
   have hxx := hx'.mono (za.le_trans hle0 ho.le)
   have hi64 : i < (zfw 64 fun _ => E.z).length := by simp; omega
   have hlt : i < (M ++ (zfw 64 fun _ => E.z).drop i).length := by simp; omega
   simp -dsimp only [zkx hxx, B.zf, V.zej, e1]
   refine S.call _ _ _ _ fun c2 h2 l2 o2 mk2 => ?_
   obtain ⟨hb1, q1, q2, ho2, hat⟩ := ho.rebase o2
   simp -dsimp only [(ho2.slAt 0 rfl).idxN hlt, B.zf]
   have hget : (M ++ (zfw 64 fun _ => E.z).drop i)[i]? = some (zfw 64 fun _ => E.z)[i] := by
    rw [List.getElem?_append_right (by omega), hM, Nat.sub_self, List.getElem?_drop]; simp [hi64]
   refine S.st (ho2.slAt 0 rfl) (ho2.zl1 0 rfl) hget (mk2 h2 o2.is) fun h3 h4 h5 h6 => ?_
   have hset : (M ++ (zfw 64 fun _ => E.z).drop i).set i c2 = (M ++ [c2]) ++ (zfw 64 fun _ => E.z).drop (i + 1) := by
    rw [List.set_append_right _ _ (by omega), hM, Nat.sub_self, List.drop_eq_getElem_cons hi64, List.set_cons_zero, List.append_assoc]; rfl
   rw [hset] at h4
   simp -dsimp [zgt (n := i) (by omega)]
   exact hZ (64 - (i + 1)) _ _ (by omega) ⟨i + 1, hb1, M ++ [c2], by omega, by simp, za.le_trans hle0 q1, by simp [hM], R, ho2.turn 0 rfl (o' := .sl E.es y _ R) h4 h5 h6 (.inl rfl)⟩
  ·have hi64 : i = 64 := by omega
   have hd : (zfw 64 fun _ => E.z).drop 64 = [] := List.drop_of_length_le (by simp)
   rw [hi64, hd, List.append_nil] at ho
   have fh := fs.grow (za.le_trans hle0 ho.le)
   have hold := fh.old k hb
   have hxx := hx'.mono (za.le_trans hle0 ho.le)
   simp -dsimp [zgm hxx hb, zji hxx hb]
   refine hold.at_.appW2 (fun id b e1 e2 => ?_) (ho.slAt 0 rfl) S.pos (by rw [hM, hi64]; exact hlk.2) (by simp [maxLen, hM, hi64]; omega) fun y' h2 h3 h4 h5 h6 h7 => ?_
   ·rcases hold.ft with e | ⟨e, _⟩
    ·rw [e] at e1; cases e1
    ·rw [e] at e1; exact fh.own.zl1 k (Objs.getA hb) id b e1 e2
   ·have f2 : FD E h0 h2 v5 n xs X (upf ys k y') (upf F k (X k ++ M)) gs := fh.turn hb h3 h4 (fun j b e1 e2 => h5 j b e1 fun e3 => by
      rcases hold.ft with e | ⟨e, _⟩
      ·rw [e] at e3; cases e3
      ·rw [e] at e3; exact e2 e3) (by
      rcases h6 with e | e
      ·rcases hold.ft with e' | ⟨e', _⟩
       ·exact .inr fun id hid => by rw [e, e'] at hid; cases hid
       ·exact .inl (e.trans e')
      ·exact .inr e) (h7 _ _ (Old.refl hold.at_))
    simp -dsimp [zgm f2.gAt hb]
    refine f2.store hb h3.zi fun h8 f3 => ?_
    simp -dsimp [zgt (n := k) (by omega)]
    refine hY (n - (k + 1)) _ _ (by omega) ⟨k + 1, _, _, _, by omega, by simp, f3, fun j hj => ?_, fun j i c hj hi hc => ?_, fun j hj => ?_⟩
    ·by_cases e : j = k
     ·subst e; rw [zeg, zeg]
     ·rw [zg4 _ _ e, zg4 _ _ e]; exact hgs j hj
    ·by_cases e : j = k
     ·subst e
      rw [zeg, List.getElem?_append_left hi] at hc
      have := mX j hb i c hc
      rwa [Nat.zero_add] at this
     ·rw [zg4 _ _ e] at hc; exact mF j i c hj hi hc
    ·by_cases e : j = k
     ·subst e; rw [zeg]; simp
     ·rw [zg4 _ _ e]; exact lF j hj
 ·exact dlat5 S hx fs hn (fun j hj => (hl j hj).1) hgs mX mF lF hq
theorem dlat3 (S : ElD C E Mk v) (hx : SlX h0 1 x (zfw n fun j => [xs j]) W) (fs : FD E h0 h v5 n xs X ys F gs) (hn : n <= 100000000) (hl : ∀ j, j < n -> (X j).length <= 4611686018427380000 /\ ((X j).length + 64) * E.bytes <= 140737488355328)
  (hgs : ∀ j, j < n -> gs j = ys j) (mX : ∀ j, j < n -> zkm Mk h0 j 0 (X j)) (mF : ∀ j, j < n -> zkm Mk h0 j 0 (F j)) (lF : ∀ j, j < n -> (F j).length = (X j).length + 64) (hq : ∀ h', h0.le h' -> Q (.bool true) h') : ze (zr.l59 E C Q x v5) [.int .i64 0] h := by
 refine ze.intro (fun t vs hh => ∃ k : Nat, k + t = n /\ vs = [.int .i64 k] /\ h.le hh) n ?_ ⟨0, by simp, by simp, za.le_refl h⟩
 rintro Y t vs hh ⟨k, ht, rfl, hle⟩ hY
 have fs1 := fs.grow hle
 have hx' := hx.mono fs1.own.le
 simp -dsimp [zkx hx']
 refine B.zd (fun hb => ?_) (fun hb => ?_) <;> simp -dsimp at hb ⊢
 ·refine ze.intro (fun t vs h2 => ∃ i : Nat, i + t = (X k).length + 64 /\ vs = [.int .i64 i] /\ h.le h2) ((X k).length + 64) ?_ ⟨0, by simp, by simp, hle⟩
  rintro Z t' vs h3 ⟨i, hi, rfl, hle3⟩ hZ
  have f3 := fs.grow hle3
  have hx' := hx.mono f3.own.le
  have hold := (f3.old k hb).at_
  have hlk := (hl k hb).1
  have hlx := hold.zj
  have hyk := f3.yAt hb
  have hly := hyk.zj
  rw [lF k hb] at hly
  have e3 := zji f3.gAt hb
  rw [hgs k hb] at e3
  simp -dsimp [zgm f3.gAt hb, e3, hly]
  refine B.zd (fun hc => ?_) (fun hc => ?_)
  ·have hc : i < (X k).length + 64 := by simp at hc; omega
   have hlF := lF k hb
   obtain ⟨c2, hc2⟩ := zc5 (L := F k) (k := i) (by omega)
   have m2 := mF k hb i c2 hc2
   rw [Nat.zero_add] at m2
   have e2 : V.idxS E.es (ys k) (.int .i64 (i : Int)) = some (elp E.es (ys k) i 0) := hyk.idxN (by omega)
   simp -dsimp only [zgm f3.gAt hb, e3, e2, B.zf, B.zg6]
   refine S.ld hyk hc2 ?_
   refine S.call _ _ _ _ fun c4 h4 l4 o4 mk4 => ?_
   have f4 := f3.grow o4.le
   have hx4 := hx.mono f4.own.le
   refine keepD2 (ls_kp2 f3.gAt f4.gAt hb) (S.kpt hyk (f4.yAt hb) hc2) ?_
   refine S.eq (S.mono f4.own.le m2) (mk4 h4 o4.is) ?_
   by_cases hd : i < (X k).length
   ·obtain ⟨c1, hc1⟩ := zc5 (L := X k) (k := i) hd
    have m1 := mX k hb i c1 hc1
    rw [Nat.zero_add] at m1
    have hold4 := (f4.old k hb).at_
    have e1 : V.idxS E.es (xs k) (.int .i64 (i : Int)) = some (elp E.es (xs k) i 0) := hold.idxN hd
    simp -dsimp [zgm hx4 hb, zji hx4 hb, hlx, hd, e1]
    refine S.ld hold4 hc1 ?_
    refine S.call _ _ _ _ fun c5 h5 l5 o5 mk5 => ?_
    have f5 := f4.grow o5.le
    refine keepD2 (ls_kp2 hx4 (hx.mono f5.own.le) hb) (S.kpt hold4 ((f5.old k hb).at_) hc1) ?_
    simp -dsimp
    refine S.eq (S.mono f5.own.le m1) (mk5 h5 o5.is) ?_
    simp -dsimp [zgt (n := i) (by omega)]
    exact hZ ((X k).length + 64 - (i + 1)) _ _ (by omega) ⟨i + 1, by omega, by simp, za.le_trans hle3 (za.le_trans o4.le o5.le)⟩
   ·simp -dsimp [zgm hx4 hb, zji hx4 hb, hlx, hd]
    simp -dsimp [zgt (n := i) (by omega)]
    exact hZ ((X k).length + 64 - (i + 1)) _ _ (by omega) ⟨i + 1, by omega, by simp, za.le_trans hle3 o4.le⟩
  ·simp -dsimp [zgt (n := k) (by omega)]
   exact hY (n - (k + 1)) _ _ (by omega) ⟨k + 1, by omega, by simp, hle3⟩
 ·exact dlat4 S (hx := hx) (fs := fs1) hn hl hgs mX (fun j i c hj hi hc => by have := mF j hj i c hc; rwa [Nat.zero_add] at this) (fun j hj => by rw [lF j hj]; omega) hq
theorem dlat2 (S : ElD C E Mk v) (hx : SlX h0 1 x (zfw n fun j => [xs j]) W) (fs : FD E h0 h v5 n xs X xs X gs) (hn : n <= 100000000) (hl : ∀ j, j < n -> (X j).length <= 4611686018427380000 /\ ((X j).length + 64) * E.bytes <= 140737488355328)
  (mX : ∀ j, j < n -> zkm Mk h0 j 0 (X j)) (hq : ∀ h', h0.le h' -> Q (.bool true) h') : ze (zr.l82 E C Q x v5) [.int .i64 0] h := by
 refine ze.intro (fun t vs hh => ∃ (k : Nat) (hb0 : za) (ys gs : Nat -> AVal) (F : Nat -> List (List AVal)), k + t = n /\ vs = [.int .i64 k] /\ h0.le hb0 /\ FD E hb0 hh v5 n xs X ys F gs /\ (∀ j, j < k -> gs j = ys j /\ zkm Mk hb0 j 0 (F j) /\ (F j).length = (X j).length + 64) /\ ∀ j, k <= j -> ys j = xs j /\ F j = X j) n ?_
  ⟨0, h0, _, gs, _, by simp, by simp, za.le_refl h0, fs, by simp, fun j _ => ⟨rfl, rfl⟩⟩
 rintro Y t vs h ⟨k, hb0, ys, gs, F, ht, rfl, hle0, fs, hlo, hhi⟩ hY
 have hx0 := hx.mono hle0
 have hx' := hx0.mono fs.own.le
 simp -dsimp [zkx hx']
 refine B.zd (fun hb => ?_) (fun hb => ?_) <;> simp -dsimp at hb ⊢
 ·have hk := hhi k (Nat.le_refl k)
  have hlk := hl k hb
  simp -dsimp [zgm hx' hb, zji hx' hb]
  refine ze.intro (fun t vs hh => ∃ (i : Nat) (y : AVal) (hb1 : za) (M : List (List AVal)), i + t = 64 /\ vs = [y, .int .i64 i] /\ hb0.le hb1 /\ M.length = i /\ zkm Mk hb1 k (X k).length M /\ FD E hb1 hh v5 n xs X (upf ys k y) (upf F k (X k ++ M)) gs) 64 ?_ ⟨0, xs k, hb0, [], by simp, by simp, za.le_refl hb0, rfl, zkm.nil _ _ _ _, ?_⟩
  ·rintro Z t' vs hh ⟨i, y, hb1, M, hi, rfl, hle1, hM, mM, f1⟩ hZ
   have hx1 := (hx0.mono hle1).mono f1.own.le
   have hold := (f1.old k hb).at_
   have hlx := hold.zj
   have ey : upf ys k y k = y := zeg ..
   simp -dsimp
   refine B.zd (fun hc => ?_) (fun hc => ?_) <;> simp -dsimp at hc ⊢
   ·have e1 : IntKind.i64.wrap (((X k).length : Int) + i) = (((X k).length + i : Nat) : Int) := by rw [wrap_i64 (by omega) (by omega)]; omega
    simp -dsimp only [zgm hx1 hb, zji hx1 hb, hlx, B.zf, B.zg6, V.zej, e1]
    refine S.call _ _ _ _ fun c2 h2 l2 o2 mk2 => ?_
    obtain ⟨hb2, q1, q2, f2, hat⟩ := f1.rebase o2
    have mc := mk2 hb2 hat
    rw [S.new mc]
    have hbound : ((X k).length + i + 1) * E.bytes <= 140737488355328 := Nat.le_trans (Nat.mul_le_mul_right _ (by omega)) hlk.2
    have := f2.push S hb (cs := c2) (S.len mc) (by rw [zeg, List.length_append, hM]; exact hbound) (by rw [zeg, List.length_append, hM]; simp [maxLen]; omega) (K := fun v68 h => B.pv (V.bin .add (.int .i64 (i : Int)) (.int .i64 1)) fun v56 => Z [v68, v56] h) fun y' h3 f3 => ?_
    ·rw [ey] at this; exact this
    ·simp -dsimp [zgt (n := i) (by omega)]
     refine hZ (64 - (i + 1)) _ _ (by omega) ⟨i + 1, y', hb2, M ++ [c2], by omega, by simp, za.le_trans hle1 q1, by simp [hM], (mM.mono S q1).snoc (by rw [hM]; exact mc), ?_⟩
     rw [zrt, zrt, zeg, List.append_assoc] at f3
     exact f3
   ·have hi64 : i = 64 := by omega
    subst hi64
    simp -dsimp [zgm f1.gAt hb]
    have hyc := (f1.yAt hb).zi
    rw [ey] at hyc
    refine f1.store hb hyc fun h2 f2 => ?_
    simp -dsimp [zgt (n := k) (by omega)]
    have hle2 := za.le_trans hle0 hle1
    refine hY (n - (k + 1)) _ _ (by omega) ⟨k + 1, hb1, _, _, _, by omega, by simp, hle2, f2, fun j hj => ?_, fun j hj => ?_⟩
    ·by_cases e : j = k
     ·subst e; rw [zeg, zeg, zeg]
      refine ⟨rfl, ?_, by rw [List.length_append, hM]⟩
      refine ((mX j hb).mono S hle2).append ?_
      rw [Nat.zero_add]; exact mM
     ·rw [zg4 _ _ e, zg4 _ _ e, zg4 _ _ e]
      have := hlo j (by omega)
      exact ⟨this.1, this.2.1.mono S hle1, this.2.2⟩
    ·rw [zg4 _ _ (by omega), zg4 _ _ (by omega)]; exact hhi j (by omega)
  ·have e1 : upf ys k (xs k) = ys := by rw [<- hk.1, zi5]
   have e2 : upf F k (X k ++ []) = F := by rw [List.append_nil, <- hk.2, zi5]
   rw [e1, e2]; exact fs
 ·have : k = n := by omega
  subst this
  exact dlat3 S hx0 fs hn hl (fun j hj => (hlo j hj).1) (fun j hj => (mX j hj).mono S hle0) (fun j hj => (hlo j hj).2.1) (fun j hj => (hlo j hj).2.2) fun h' hle => hq h' (za.le_trans hle0 hle)
theorem dlatG_spec (S : ElD C E Mk v) {D R : Nat -> List (List AVal)} (hx : SlX h0 1 x (zfw n fun j => [xs j]) W) (ho : Owns h0 h (Objs E.es n xs D R)) (hn : n <= 100000000) (hl : ∀ j, j < n -> (D j).length <= 4611686018427380000 /\ ((D j).length + 64) * E.bytes <= 140737488355328)
  (hq : ∀ h', h0.le h' -> Q (.bool true) h') : zr E C x h Q := by
 refine ze.intro (fun t vs hh => ∃ (k : Nat) (hb0 : za) (G : Nat -> List (List AVal)), k + t = n /\ vs = [.int .i64 k] /\ h0.le hb0 /\ Owns hb0 hh (Objs E.es n xs G R) /\ (∀ j, j < k -> zkm Mk hb0 j 0 (G j) /\ (G j).length = (D j).length) /\ ∀ j, k <= j -> G j = D j) n ?_
  ⟨0, h0, D, by simp, by simp, za.le_refl h0, ho, by simp, fun j _ => rfl⟩
 rintro Y t vs h ⟨k, hb0, G, ht, rfl, hle0, ho, hlo, hhi⟩ hY
 have hx0 := hx.mono hle0
 have hx' := hx0.mono ho.le
 simp -dsimp [zkx hx']
 refine B.zd (fun hb => ?_) (fun hb => ?_) <;> simp -dsimp at hb ⊢
 ·have hlk := (hl k hb).1
  have hgk := hhi k (Nat.le_refl k)
  refine ze.intro (fun t vs hh => ∃ (i : Nat) (hb1 : za) (M : List (List AVal)), i + t = (D k).length /\ vs = [.int .i64 i] /\ hb0.le hb1 /\ M.length = i /\ zkm Mk hb1 k 0 M /\ Owns hb1 hh (Objs E.es n xs (upf G k (M ++ (D k).drop i)) R)) (D k).length ?_ ⟨0, hb0, [], by simp, by simp, za.le_refl hb0, rfl, zkm.nil _ _ _ _, ?_⟩
  ·rintro Z t' vs hh ⟨i, hb1, M, hi, rfl, hle1, hM, mM, ho1⟩ hZ
   have hx1 := (hx0.mono hle1).mono ho1.le
   have hxk := ho1.slAt k (Objs.get hb)
   rw [zeg] at hxk
   have hlx := hxk.zj
   have hll : (M ++ (D k).drop i).length = (D k).length := by simp; omega
   rw [hll] at hlx
   simp -dsimp [zgm hx1 hb, zji hx1 hb, hlx]
   refine B.zd (fun hc => ?_) (fun hc => ?_) <;> simp -dsimp at hc ⊢
   ·have hlt : i < (M ++ (D k).drop i).length := by omega
    simp -dsimp only [zgm hx1 hb, zji hx1 hb, B.zf, B.zg6]
    refine S.call _ _ _ _ fun c2 h2 l2 o2 mk2 => keepD1 (ls_kp2 hx1 (hx1.mono o2.le) hb) ?_
    obtain ⟨hb2, q1, q2, ho2, hat⟩ := ho1.rebase o2
    have hxk2 := ho2.slAt k (Objs.get hb)
    rw [zeg] at hxk2
    simp -dsimp only [hxk2.idxN hlt, B.zf]
    have hget : (M ++ (D k).drop i)[i]? = some (D k)[i] := by
     rw [List.getElem?_append_right (by omega), hM, Nat.sub_self, List.getElem?_drop]; simp [hc]
    refine S.st hxk2 (ho2.zl1 k (Objs.get hb)) hget (mk2 h2 o2.is) fun h3 h4 h5 h6 => ?_
    have hset : (M ++ (D k).drop i).set i c2 = (M ++ [c2]) ++ (D k).drop (i + 1) := by
     rw [List.set_append_right _ _ (by omega), hM, Nat.sub_self, List.drop_eq_getElem_cons hc, List.set_cons_zero, List.append_assoc]; rfl
    rw [hset] at h4
    have h7 := ho2.turn k (Objs.get hb) (o' := .sl E.es (xs k) _ (R k)) h4 h5 h6 (.inl rfl)
    rw [Objs.set, zi5, zi5, zrt] at h7
    simp -dsimp [zgt (n := i) (by omega)]
    exact hZ ((D k).length - (i + 1)) _ _ (by omega) ⟨i + 1, hb2, M ++ [c2], by omega, by simp, za.le_trans hle1 q1, by simp [hM], (mM.mono S q1).snoc (by rw [Nat.zero_add, hM]; exact mk2 hb2 hat), h7⟩
   ·have hie : i = (D k).length := by omega
    rw [hie, List.drop_length, List.append_nil] at ho1
    simp -dsimp [zgt (n := k) (by omega)]
    refine hY (n - (k + 1)) _ _ (by omega) ⟨k + 1, hb1, _, by omega, by simp, za.le_trans hle0 hle1, ho1, fun j hj => ?_, fun j hj => ?_⟩
    ·by_cases e : j = k
     ·subst e; rw [zeg]; exact ⟨mM, by omega⟩
     ·rw [zg4 _ _ e]
      have := hlo j (by omega)
      exact ⟨this.1.mono S hle1, this.2⟩
    ·rw [zg4 _ _ (by omega)]; exact hhi j (by omega)
  ·simp only [List.nil_append, List.drop_zero]
   rw [<- hgk, zi5]; exact ho
 ·have : k = n := by omega
  subst this
  simp -dsimp only [zkx hx', B.zf]
  refine ⟨Nat.one_pos, ?_⟩
  refine ho.mks (bytes := 24) (es := 1) (n := k) (c := k) (z := [.nils]) rfl (by omega) (by omega) (by omega) (by omega) fun y h1 ho1 => ?_
  have e1 : ((k : Int)).toNat = k := by simp
  rw [e1, Nat.sub_self, zse] at ho1
  have ho2 := ho1.cutR
  exact dlat2 S hx0 ⟨ho2, fun j hj => Old.refl (ho2.slAt j (Objs.getA hj))⟩ hn (fun j hj => by rw [(hlo j hj).2]; exact hl j hj) (fun j hj => (hlo j hj).1) fun h' hle => hq h' (za.le_trans hle0 hle)
end
end Go.Ab
set_option maxRecDepth 100000
namespace Go.Ab
variable {C : CSem} {N : zN}
theorem elD {es bytes f g : Nat} {z : List AVal} {m : Int -> Int -> List AVal} (hes : 0 < es) (hm : ∀ k i, (m k i).length = es) (hz : z.length = es) (hb : bytes <= 1000) (s1 : ∀ (k i : Int) (h : za) (Q : zQ), Q (.agg (m k i)) h -> C f [.int .i64 k, .int .i64 i] h Q)
  (s2 : ∀ (k i : Int) (h : za) (Q : zQ), Q (.bool true) h -> C g [.agg (m k i), .agg (m k i)] h Q) :
  zrs C (opsD C es bytes z f g) m (fun k i => .agg (m k i)) where
 pos := hes
 small := hb
 len _ _ := hm _ _
 zlen := hz
 new k i := by
  have hrep : repL 1 z = z := by unfold repL; split <;> simp
  have h1 := hm k i
  show zcr [(0, some es, AVal.agg (m k i))] (repL 1 z) = _
  rw [hrep]
  simp [h1, hz]
 call := s1
 ld hs hc hk := by
  simp only [opsD, B.zhn] at hs ⊢
  rw [hs.elem hc]; exact hk
 kpt hs hc := ⟨_, hs.elem hc⟩
 st {h x L R i c k j K} hs hown hc hk := by
  refine hs.stn hown hc (hm _ _) (by simp [opsD]) ?_
  have hcl := hs.len c (List.mem_append_left _ (List.mem_of_getElem? hc))
  have e : c.take 0 ++ m k j ++ c.drop (0 + es) = m k j := by
   have : c.length = es := hcl
   simp [this]
  rw [e]; exact hk
 eq hk := s2 _ _ _ _ hk
end Go.Ab
set_option maxRecDepth 100000
namespace Go.Ab
variable {C : CSem} {N : zN}
abbrev sing (v : AVal) : List AVal := [v]
def znx (h hh : za) (id : Nat) (B : Nat -> List AVal) : Prop := ∃ xs : Nat -> AVal, Owns h hh (Objs 1 23 xs (fun i => (B i).map sing) (fun _ => []) ++ [.box (.ptr id 0 0) (fill 23 xs)])
theorem Owns.nilObjs {h0 h : za} {l : List Ob} (ho : Owns h0 h l) (es n : Nat) : Owns h0 h (Objs es n (fun _ => .nils) (fun _ => []) (fun _ => []) ++ l) := by
 have mem : ∀ o ∈ Objs es n (fun _ => AVal.nils) (fun _ => []) (fun _ => []), o = .sl es .nils [] [] := fun o hm => by
  obtain ⟨j, _, rfl⟩ := List.mem_map.1 hm; rfl
 refine ⟨ho.le, fun o hm => ?_, fun o hm => ?_, List.pairwise_append.2 ⟨?_, ho.apart, fun a ha b _ id hf => by rw [mem a ha] at hf; cases hf⟩⟩
 ·rcases List.mem_append.1 hm with hm | hm
  ·rw [mem o hm]; exact SlX.nils h es
  ·exact ho.is o hm
 ·rcases List.mem_append.1 hm with hm | hm
  ·intro id hf; rw [mem o hm] at hf; cases hf
  ·exact ho.own o hm
 ·rw [List.pairwise_iff_forall_sublist]
  intro a b hs id hf
  rw [mem a (hs.subset (by simp))] at hf; cases hf
theorem znx.start {h : za} {id : Nat} (hid : h id = none) : znx h (upd h id (zee (fill 23 fun _ => .nils))) id fun _ => [] := by
 refine ⟨fun _ => .nils, ?_⟩
 have := ((Owns.start h).zkd hid (fill 23 fun _ => .nils)).nilObjs 1 23
 simpa using this
def putG (k : Nat) (v0 v1 : AVal) (h : za) (Q : zQ) : Prop :=
 B.nilCheck v0 fun v6 =>
  B.pv (V.fieldAddr k v6) fun v7 =>
  B.ld h v7 fun v8 =>
  B.newO h (zcr [(0, none, v1)] (repL 1 [.nils])) fun i10 h =>
  B.appW h 1 24 v8 (.sl i10 0 0 1 1 1) fun v11 h =>
  B.nilCheck v0 fun v12 =>
  B.pv (V.fieldAddr k v12) fun v13 =>
  B.st h v13 v11 fun h =>
  Q (.tup []) h
theorem zm7 {k : Nat} (hk : k < 23) {h hh : za} {id : Nat} {B : Nat -> List AVal} {y : AVal} {Q : zQ} (hb : znx h hh id B) (hy : y.zi = true) (hl : (B k).length <= 100000000) (hq : ∀ h', znx h h' id (upf B k (B k ++ [y])) -> Q (.tup []) h') : putG k (.ptr id 0 0) y hh Q := by
 obtain ⟨xs, ho⟩ := hb
 obtain ⟨id', e, hbx⟩ := ho.zgp 23 Objs.getL
 cases e
 have e1 : A.ldv hh (.ptr id 0 k) = some (xs k) := by rw [zd2 hbx, ztu _ hk]
 have hrep : repL 1 [AVal.nils] = [AVal.nils] := rfl
 simp -dsimp [putG, e1, hrep, hy]
 refine ho.push k (Objs.getA hk) rfl (by omega) (by simp; omega) (by simp [maxLen]; omega) fun x' h1 ho1 _ => ?_
 rw [Objs.setA hk, ztz] at ho1
 have hcx := (ho1.slAt k (Objs.getA hk)).zi
 rw [zeg] at hcx
 simp -dsimp
 refine ho1.zkj 23 Objs.getL hcx (by simpa using hk) fun h2 ho2 _ => ?_
 rw [Objs.setL, fill_set] at ho2
 refine hq h2 ⟨upf xs k x', ?_⟩
 have e2 : upf (fun i => (B i).map sing) k ((B k).map sing ++ [[y]]) = fun i => (upf B k (B k ++ [y]) i).map sing := by
  funext i; unfold upf; split
  ·rename_i e; subst e; simp
  ·rfl
 rw [e2] at ho2
 exact ho2
section
variable {h0 h : za} {id : Nat} {B : Nat -> List AVal} {D R : Nat -> Nat -> List (List AVal)} {xs : Nat -> AVal} {Q : zQ}
end
end Go.Ab
set_option maxRecDepth 100000
namespace Go.Ab
variable {C : CSem} {N : zN}
def zit (C : CSem) (k g : Nat) : Prop := ∀ (h hh : za) (id : Nat) (B : Nat -> List AVal) (y : AVal) (Q : zQ), znx h hh id B -> y.zi = true -> (B k).length <= 100000000 -> (∀ h', znx h h' id (upf B k (B k ++ [y])) -> Q (.tup []) h') -> C g [.ptr id 0 0, y] hh Q
@[simp] def zs3.k1 (C : CSem) (fp fa : Nat) (Q : zQ) (Y1 : zL) (v0 v3 v4 : AVal) (h : za) : Prop :=
 B.pv (V.zj v0) fun v9 =>
  B.pv (V.bin .lss v4 v9) fun v10 =>
  B.cond v10
  (B.pv (V.idxS 1 v0 v4) fun v16 =>
  B.ld h v16 fun v17 =>
  B.call C fp [v3, v17] h fun v18 h =>
  B.pv (V.bin .add v4 (.int .i64 1)) fun v12 =>
  Y1 [v12] h)
  (B.call C fa [v3] h fun v20 h =>
  Q v20 h)
@[simp] def zs3.l2 (C : CSem) (fp fa : Nat) (Q : zQ) (v0 v3 : AVal) : zG
 | [v4], h, Y1 => zs3.k1 C fp fa Q Y1 v0 v3 v4 h
 | _, _, _ => False
def zs3 (C : CSem) (fp fa : Nat) (v0 : AVal) (h : za) (Q : zQ) : Prop :=
 B.pv (A.bld [] [.nils, .nils, .nils, .nils, .nils, .nils, .nils, .nils, .nils, .nils, .nils, .nils, .nils, .nils, .nils, .nils, .nils, .nils, .nils, .nils, .nils, .nils, .nils]) fun v5 =>
  B.newO h (A.zjp 23 v5) fun i6 h =>
  ze (zs3.l2 C fp fa Q v0 (.ptr i6 0 0)) [(.int .i64 0)] h
theorem znx.le {h hh : za} {id : Nat} {B : Nat -> List AVal} (hb : znx h hh id B) : h.le hh := by obtain ⟨_, ho⟩ := hb; exact ho.le
@[simp] theorem Objs_zero {es : Nat} {xs : Nat -> AVal} {D R : Nat -> List (List AVal)} : Objs es 0 xs D R = [] := rfl
theorem zc8.spec (i : zc8.Imp C N) : zit C 6 (N 130) := fun h hh id B y Q hb hy hl hq => i _ _ hh Q (zm7 (k := 6) (by omega) hb hy hl fun h' hb' => zk (hq h' hb'))
end Go.Ab
set_option maxRecDepth 100000
namespace Go.Ab
variable {C : CSem} {N : zN}
structure LL.okL (lim : Nat) (t : LL) (h0 : za) : Prop where
 is : SlX h0 1 t.x (zfw t.n fun j => [t.xs j]) t.W
 n_le : t.n <= 100000000
 zmi : ∀ j, j < t.n -> (t.D j).length <= lim
def zlt (C : CSem) (es lim g : Nat) : Prop := ∀ (t : LL) (h0 h : za) (Q : zQ), t.okL lim h0 -> Owns h0 h (t.obs es) -> (∀ h', h0.le h' -> Q (.bool true) h') -> C g [t.x] h Q
theorem elDF {T Ad : Type} [DecidableEq T] (K : DK T Ad) {f g : Nat} {mk : Int -> Int -> T} (hmk : ∀ k i, K.ok (mk k i)) (s1 : MarkE K mk C f) (s2 : SameE K C g) :
  ElD C (opsD C K.n K.bytes K.z f g) (fun h k i c => ∃ a, c = K.cells (mk k i) a /\ K.at_ h (mk k i) a) AVal.agg where
 pos := K.pos
 zlen := K.zlen
 len := by rintro h k i c ⟨a, rfl, _⟩; exact K.len _ a
 mono := by rintro h h' k i c hle ⟨a, rfl, ha⟩; exact ⟨a, rfl, K.mono hle ha⟩
 new := by rintro h k i c ⟨a, rfl, _⟩; exact zn7 K _ a
 call k i h Q hq := s1 k i h Q fun a h' o => hq _ h' _ o fun h1 ha => ⟨a, rfl, K.zuu (hmk k i) ha⟩
 ld hs hc hk := by
  simp only [opsD, B.zhn] at hs ⊢
  rw [hs.elem hc]; exact hk
 kpt hs hs' hc := ⟨_, hs.elem hc, hs'.elem hc⟩
 st := by
  rintro h x L R i c c0 k j Q hs hown hc0 ⟨a, rfl, ha⟩ hk
  have hs' : SlX h K.n x L R := hs
  refine hs'.stn hown hc0 (K.len _ a) (by simp) ?_
  have hcl : c0.length = K.n := hs'.len c0 (List.mem_append_left _ (List.mem_of_getElem? hc0))
  have e : c0.take 0 ++ K.cells (mk k j) a ++ c0.drop (0 + K.n) = K.cells (mk k j) a := by simp [hcl]
  rw [e]; exact hk
 eq := by
  rintro h k i c c' Q ⟨a, rfl, ha⟩ ⟨b, rfl, hb⟩ hk
  refine s2 _ _ _ _ _ _ ha hb ?_
  rw [decide_eq_true rfl]; exact hk
theorem flatD_spec {T Ad : Type} [DecidableEq T] (K : DK T Ad) {f g : Nat} {mk : Int -> Int -> T} (hmk : ∀ k i, K.ok (mk k i)) (s1 : MarkE K mk C f) (s2 : SameE K C g) (t : LL) {h0 h : za} {Q : zQ} (ht : t.okL 100000000 h0) (ho : Owns h0 h (t.obs K.n)) (hq : ∀ h', h0.le h' -> Q (.bool true) h') :
  zr (opsD C K.n K.bytes K.z f g) C t.x h Q := by
 refine dlatG_spec (elDF K hmk s1 s2) ht.is ho ht.n_le (fun j hj => ?_) hq
 have := ht.zmi j hj
 have h2 := Nat.mul_le_mul (show (t.D j).length + 64 <= 100000064 by omega) K.small
 exact ⟨by omega, by show ((t.D j).length + 64) * K.bytes <= _; omega⟩
structure BagK where
 es : Nat -> Nat
 lim : Nat -> Nat
 full : Nat -> Bool
abbrev LK := List (AVal × List (List AVal))
def obK (es : Nat) (q : AVal × List (List AVal)) : Ob := .sl es q.1 q.2 []
def LK.ll (l : LK) (x : AVal) : LL := ⟨x, l.length, fun j => (l.getD j (.nils, [])).1, fun j => (l.getD j (.nils, [])).2, fun _ => [], []⟩
theorem LK.obs (l : LK) (x : AVal) (es : Nat) : (l.ll x).obs es = l.map (obK es) := by
 apply List.ext_getElem?
 intro j
 unfold LL.obs LK.ll
 by_cases hj : j < l.length
 ·rw [Objs.get hj, List.getElem?_map, List.getElem?_eq_getElem hj]
  simp [obK, hj]
 ·rw [List.getElem?_eq_none (by simp; omega), List.getElem?_eq_none (by simp; omega)]
theorem LK.zfw (l : LK) : zfw l.length (fun j => [(l.getD j (.nils, [])).1]) = l.map fun q => [q.1] := by
 apply List.ext_getElem?
 intro j
 by_cases hj : j < l.length
 ·rw [zlp _ hj, List.getElem?_map, List.getElem?_eq_getElem hj]; simp [hj]
 ·rw [List.getElem?_eq_none (by simp; omega), List.getElem?_eq_none (by simp; omega)]
def zgw (C : CSem) (b : BagK) (i g : Nat) : Prop := (b.full i = true -> zlt C (b.es i) (b.lim i) g) /\ (b.full i = false -> zcs C g)
structure BagL (b : BagK) (h0 : za) (id : Nat) (L : Nat -> LK) (xs : Nat -> AVal) : Prop where
 box : h0 id = some (zee (fill 23 xs))
 is : ∀ i, i < 23 -> SlX h0 1 (xs i) ((L i).map fun q => [q.1]) []
 none : ∀ i, i < 23 -> b.full i = false -> L i = []
 n_le : ∀ i, i < 23 -> (L i).length <= 100000000
 zmi : ∀ i, i < 23 -> ∀ q ∈ L i, q.2.length <= b.lim i
def zjj (b : BagK) (L : Nat -> LK) (i n : Nat) : List Ob := (List.range' i n).flatMap fun i => (L i).map (obK (b.es i))
theorem zls (b : BagK) (L : Nat -> LK) (i n : Nat) : zjj b L i (n + 1) = (L i).map (obK (b.es i)) ++ zjj b L (i + 1) n := by
 simp [zjj, List.range'_succ]
section
variable {b : BagK} {h0 h : za} {id : Nat} {L : Nat -> LK} {xs : Nat -> AVal} {Q : zQ}
theorem BagL.ld (hb : BagL b h0 id L xs) (hle : h0.le h) {i : Nat} (hi : i < 23) : A.ldv h (.ptr id 0 i) = some (xs i) := by
 rw [zd2 (hle _ _ hb.box), ztu _ hi]
theorem zgb {g : Nat} (i : Nat) (s : zgw C b i g) (hb : BagL b h0 id L xs) (n : Nat) (hi : i < 23) (ho : Owns h0 h (zjj b L i (n + 1))) (hq : ∀ h', Owns h0 h' (zjj b L (i + 1) n) -> Q (.bool true) h') : C g [xs i] h Q := by
 rw [zls] at ho
 cases hf : b.full i with
 | true =>
  obtain ⟨q1, q2⟩ := (ho.perm List.perm_append_comm).out
  have hx := (hb.is i hi).mono q1.le
  rw [<- LK.zfw] at hx
  rw [<- LK.obs (L i) (xs i)] at q1 q2
  refine s.1 hf ((L i).ll (xs i)) _ h Q ⟨by rw [<- LK.obs (L i) (xs i)] at hx; exact hx, hb.n_le i hi, fun j hj => ?_⟩ q2 fun h' hle => hq h' (q1.grow hle)
  have hj' : j < (L i).length := hj
  show ((L i).getD j (.nils, [])).2.length <= _
  rw [List.getD_eq_getElem?_getD, List.getElem?_eq_getElem hj']
  exact hb.zmi i hi _ (List.getElem_mem hj')
 | false =>
  have e := hb.none i hi hf
  have hx := hb.is i hi
  rw [e] at hx ho
  simp only [List.map_nil, List.nil_append] at hx ho
  exact s.2 hf (xs i) [] h h Q (hx.mono ho.le) (za.le_refl h) fun h' hle => hq h' (ho.grow hle)
end
def ApartK (C : CSem) (b : BagK) (g : Nat) : Prop := ∀ (id : Nat) (L : Nat -> LK) (xs : Nat -> AVal) (h0 h : za) (Q : zQ), BagL b h0 id L xs -> Owns h0 h (zjj b L 0 23) -> (∀ h', h0.le h' -> Q (.bool true) h') -> C g [.ptr id 0 0] h Q
theorem bag_apartK (i : zdu.Imp C N) (b : BagK) (f0 : zgw C b 0 (N 80)) (f1 : zgw C b 1 (N 81)) (f2 : zgw C b 2 (N 82)) (f3 : zgw C b 3 (N 83)) (f4 : zgw C b 4 (N 84)) (f5 : zgw C b 5 (N 85)) (f6 : zgw C b 6 (N 86)) (f7 : zgw C b 7 (N 87)) (f8 : zgw C b 8 (N 88))
  (f9 : zgw C b 9 (N 89)) (f10 : zgw C b 10 (N 90)) (f11 : zgw C b 11 (N 91)) (f12 : zgw C b 12 (N 92)) (f13 : zgw C b 13 (N 93)) (f14 : zgw C b 14 (N 94)) (f15 : zgw C b 15 (N 95)) (f16 : zgw C b 16 (N 96)) (f17 : zgw C b 17 (N 97)) (f18 : zgw C b 18 (N 98)) (f19 : zgw C b 19 (N 99))
  (f20 : zgw C b 20 (N 100)) (f21 : zgw C b 21 (N 101)) (f22 : zgw C b 22 (N 102)) : ApartK C b (N 62) := by
 intro id L xs h0 h Q hb ho hq
 apply i
 simp -dsimp [hb.ld ho.le (i := 0) (by omega)]
 refine zgb 0 f0 hb 22 (by omega) ho fun h ho => ?_
 simp -dsimp [hb.ld ho.le (i := 1) (by omega)]
 refine zgb 1 f1 hb 21 (by omega) ho fun h ho => ?_
 simp -dsimp [hb.ld ho.le (i := 2) (by omega)]
 refine zgb 2 f2 hb 20 (by omega) ho fun h ho => ?_
 simp -dsimp [hb.ld ho.le (i := 3) (by omega)]
 refine zgb 3 f3 hb 19 (by omega) ho fun h ho => ?_
 simp -dsimp [hb.ld ho.le (i := 4) (by omega)]
 refine zgb 4 f4 hb 18 (by omega) ho fun h ho => ?_
 simp -dsimp [hb.ld ho.le (i := 5) (by omega)]
 refine zgb 5 f5 hb 17 (by omega) ho fun h ho => ?_
 simp -dsimp [hb.ld ho.le (i := 6) (by omega)]
 refine zgb 6 f6 hb 16 (by omega) ho fun h ho => ?_
 simp -dsimp [hb.ld ho.le (i := 7) (by omega)]
 refine zgb 7 f7 hb 15 (by omega) ho fun h ho => ?_
 simp -dsimp [hb.ld ho.le (i := 8) (by omega)]
 refine zgb 8 f8 hb 14 (by omega) ho fun h ho => ?_
 simp -dsimp [hb.ld ho.le (i := 9) (by omega)]
 refine zgb 9 f9 hb 13 (by omega) ho fun h ho => ?_
 simp -dsimp [hb.ld ho.le (i := 10) (by omega)]
 refine zgb 10 f10 hb 12 (by omega) ho fun h ho => ?_
 simp -dsimp [hb.ld ho.le (i := 11) (by omega)]
 refine zgb 11 f11 hb 11 (by omega) ho fun h ho => ?_
 simp -dsimp [hb.ld ho.le (i := 12) (by omega)]
 refine zgb 12 f12 hb 10 (by omega) ho fun h ho => ?_
 simp -dsimp [hb.ld ho.le (i := 13) (by omega)]
 refine zgb 13 f13 hb 9 (by omega) ho fun h ho => ?_
 simp -dsimp [hb.ld ho.le (i := 14) (by omega)]
 refine zgb 14 f14 hb 8 (by omega) ho fun h ho => ?_
 simp -dsimp [hb.ld ho.le (i := 15) (by omega)]
 refine zgb 15 f15 hb 7 (by omega) ho fun h ho => ?_
 simp -dsimp [hb.ld ho.le (i := 16) (by omega)]
 refine zgb 16 f16 hb 6 (by omega) ho fun h ho => ?_
 simp -dsimp [hb.ld ho.le (i := 17) (by omega)]
 refine zgb 17 f17 hb 5 (by omega) ho fun h ho => ?_
 simp -dsimp [hb.ld ho.le (i := 18) (by omega)]
 refine zgb 18 f18 hb 4 (by omega) ho fun h ho => ?_
 simp -dsimp [hb.ld ho.le (i := 19) (by omega)]
 refine zgb 19 f19 hb 3 (by omega) ho fun h ho => ?_
 simp -dsimp [hb.ld ho.le (i := 20) (by omega)]
 refine zgb 20 f20 hb 2 (by omega) ho fun h ho => ?_
 simp -dsimp [hb.ld ho.le (i := 21) (by omega)]
 refine zgb 21 f21 hb 1 (by omega) ho fun h ho => ?_
 simp -dsimp [hb.ld ho.le (i := 22) (by omega)]
 refine zgb 22 f22 hb 0 (by omega) ho fun h ho => ?_
 try simp -dsimp
 exact zk (hq _ ho.le)
end Go.Ab
namespace Go.Ab
variable {C : CSem} {N : zN}
def zbr.Spec (C : CSem) (N : zN) : Prop := ∀ (n : Nat) (h : za) (Q : zQ), n <= 100000000 -> (∀ x h' R, Owns h h' [.sl 1 x [] R] -> Q x h') -> C (N 444) [.nils, .int .i64 (n : Int)] h Q
theorem zbr.spec (i : zbr.Imp C N) : zbr.Spec C N := by
 intro n h Q hn hq
 apply i
 have e0 : V.bin .lss (.int .i64 (n : Int)) (.int .i64 0) = some (.bool (decide (n < 0))) := lssN (b := 0)
 have e1 : V.bin .sub (.int .i64 0) (.int .i64 0) = some (.int .i64 0) := rfl
 have e2 : V.bin .sub (.int .i64 (n : Int)) (.int .i64 0) = some (.int .i64 (n : Int)) := subNN (b := 0) (by omega) (by omega)
 simp -dsimp only [zbr.cps, zhd.cps, zhd.k1, e0, e1, e2, V.capSl, V.zj, V.bin_gtr, B.zf, Nat.not_lt_zero, decide_false, B.cond_false]
 refine B.zd (fun hb => ?_) (fun hb => ?_)
 ·have hb : 0 < n := by simpa using hb
  have e3 : V.zgo (opsS 1 (.int .u8 0) 0).es .nils none (some (.int .i64 0)) = some .nils := rfl
  have ec : V.capSl .nils = some (.int .i64 0) := rfl
  have el : V.zj .nils = some (.int .i64 0) := rfl
  simp -dsimp only [ec, e3, B.zf]
  refine ⟨⟨rfl, by omega, by simp [opsS]; omega, by simp [maxLen]; omega⟩, fun id hid => ?_⟩
  have hr : repL (n : Int).toNat (opsS 1 (.int .u8 0) 0).z = List.replicate n (.int .u8 0) := by rw [Int.toNat_natCast]; exact repL_one n _
  rw [hr]
  have o := (Owns.start h).zmz (id := id) (n := n) (cp := n) (es := 1) (cs := List.replicate n (.int .u8 0)) (L := List.replicate n [.int .u8 0]) (R := []) hid (by simp) (by simp) (by simp) (by simp)
  obtain ⟨y, e4, e5⟩ := Owns.cutTo (x := .sl id 0 0 n 1 n) o Nat.one_pos (k := 0) (by omega)
  rw [Int.toNat_natCast]
  simp -dsimp only [el, B.zf]
  have e4' : V.zgo (opsS 1 (.int .u8 0) 0).es (.sl id 0 0 n (opsS 1 (.int .u8 0) 0).es n) none (some (.int .i64 0)) = some y := e4
  simp -dsimp only [e4', B.zf]
  exact zk (hq y _ _ e5)
 ·exact zk (hq _ _ _ ((Owns.start h).nils 1))
def zh.Spec (C : CSem) (N : zN) : Prop := ∀ (x : AVal) (xs : List AVal) (L : List (List UInt8)) (R : List (List AVal)) (h : za) (Q : zQ), SlX h 1 x (xs.map fun y => [y]) R -> xs.length = L.length -> (∀ (i : Nat) (y : AVal) (l : List UInt8), xs[i]? = some y -> L[i]? = some l -> ∃ R, SlX h 1 y (l.map bc) R) -> L.length <= 1000 -> L.flatten.length <= 100000000 ->
 (∀ x' h' R', Owns h h' [.sl 1 x' (L.flatten.map bc) R'] -> Q x' h') -> C (N 439) [x] h Q
theorem zh.spec (i : zh.Imp C N) (s1 : zbr.Spec C N) : zh.Spec C N := by
 intro x xs L R h Q hx hxl hin hl1 hl2 hq
 apply i
 have hlen := hx.zj
 rw [List.length_map, hxl] at hlen
 simp -dsimp only [zh.cps, hlen, B.zf]
 have cell : ∀ {hh : za} (hle : h.le hh) {k : Nat} (hk : k < L.length) {K : AVal -> Prop}, (∀ y R2, SlX hh 1 y (L[k].map bc) R2 -> K y) -> B.pv (V.idxS 1 x (.int .i64 (k : Int))) (fun v => B.ld hh v K) := fun {hh} hle {k} hk {K} hK => by
  have hg : (xs.map fun y => [y])[k]? = some [xs[k]'(by omega)] := by rw [List.getElem?_map, List.getElem?_eq_getElem (by omega)]; rfl
  have hidx : V.idxS 1 x (.int .i64 (k : Int)) = some (elp 1 x k 0) := hx.idxN (by simp; omega)
  rw [hidx, B.zf]
  rw [B.zg6, (hx.mono hle).cell hg, B.zf]
  obtain ⟨R2, h2⟩ := hin k _ _ (List.getElem?_eq_getElem (by omega)) (List.getElem?_eq_getElem hk)
  exact hK _ _ (h2.mono hle)
 refine ze.intro (fun t vs hh => hh = h /\ ∃ k : Nat, k + t = L.length /\ vs = [.int .i64 ((L.take k).flatten.length : Int), .int .i64 (k : Int)]) L.length ?_ ⟨rfl, 0, by omega, rfl⟩
 rintro Y t vs hh ⟨rfl, k, ht, rfl⟩ hY
 simp -dsimp only [zh.l4, zh.k3, lssN, B.zf]
 refine B.zd (fun hb => ?_) (fun hb => ?_)
 ·rw [decide_eq_true_eq] at hb
  have hs := zpk hb
  have hle := zt2 L (k + 1)
  refine cell (za.le_refl _) hb fun y R2 hy => ?_
  have e1 := hy.zj
  rw [List.length_map] at e1
  have e2 : V.bin .lss (.int .i64 (((L.take k).flatten.length + L[k].length : Nat) : Int)) (.int .i64 0) = some (.bool false) := by
   exact (lssN (b := 0)).trans (by simp)
  simp -dsimp only [e1, addNN (a := (L.take k).flatten.length) (b := L[k].length) (by omega), e2, B.zf, B.cond_false, add1 (show k < 4611686018427387904 by omega)]
  exact hY (t - 1) _ _ (by omega) ⟨rfl, k + 1, by omega, by rw [hs]⟩
 ·rw [decide_eq_false_iff_not] at hb
  have hk : k = L.length := by omega
  subst hk
  rw [List.take_length]
  refine s1 _ _ _ hl2 fun y0 h1 R1 o1 => ?_
  simp -dsimp only [hlen, B.zf]
  refine ze.intro (fun t vs h2 => ∃ (k : Nat) (y : AVal) (R2 : List (List AVal)), k + t = L.length /\ vs = [y, .int .i64 (k : Int)] /\ Owns hh h2 [.sl 1 y ((L.take k).flatten.map bc) R2]) L.length ?_ ⟨0, y0, R1, by omega, rfl, o1⟩
  rintro Z t2 vs h2 ⟨k, y, R2, ht2, rfl, o2⟩ hZ
  simp -dsimp only [zh.l2, zh.k1, lssN, B.zf]
  refine B.zd (fun hc => ?_) (fun hc => ?_)
  ·rw [decide_eq_true_eq] at hc
   have hs := zpk hc
   have hle := zt2 L (k + 1)
   refine cell o2.le hc fun z R3 hz => ?_
   refine o2.appW 0 rfl hz Nat.one_pos (by simp only [List.length_map]; omega) (by simp only [List.length_map, maxLen]; omega) fun x' h' o3 _ => ?_
   simp -dsimp only [add1 (show k < 4611686018427387904 by omega), B.zf]
   refine hZ (t2 - 1) _ _ (by omega) ⟨k + 1, x', [], by omega, rfl, ?_⟩
   rw [List.take_add_one, List.getElem?_eq_getElem hc, Option.toList_some, List.flatten_append, List.flatten_singleton, List.map_append]
   exact o3
  ·rw [decide_eq_false_iff_not] at hc
   have hk : k = L.length := by omega
   subst hk
   rw [List.take_length] at o2
   exact zk (hq _ _ _ o2)
def Pcs (h : za) : List AVal -> List (List UInt8) -> Prop
 | [], [] => True
 | y :: ys, l :: ls => (∃ R, SlX h 1 y (l.map bc) R) /\ Pcs h ys ls
 | _, _ => False
theorem Pcs.mono {h h' : za} (hle : h.le h') : ∀ {ys : List AVal} {ls : List (List UInt8)}, Pcs h ys ls -> Pcs h' ys ls
 | [], [], _ => trivial
 | _ :: _, _ :: _, ⟨⟨R, a⟩, b⟩ => ⟨⟨R, a.mono hle⟩, Pcs.mono hle b⟩
theorem Pcs.len {h : za} : ∀ {ys : List AVal} {ls : List (List UInt8)}, Pcs h ys ls -> ys.length = ls.length
 | [], [], _ => rfl
 | _ :: _, _ :: _, ⟨_, b⟩ => congrArg (· + 1) (Pcs.len b)
theorem Pcs.get {h : za} : ∀ {ys : List AVal} {ls : List (List UInt8)}, Pcs h ys ls -> ∀ (i : Nat) (y : AVal) (l : List UInt8), ys[i]? = some y -> ls[i]? = some l -> ∃ R, SlX h 1 y (l.map bc) R
 | [], [], _, i, y, l, h1, _ => by simp at h1
 | _ :: _, _ :: _, ⟨a, b⟩, 0, y, l, h1, h2 => by cases h1; cases h2; exact a
 | _ :: _, _ :: _, ⟨a, b⟩, i + 1, y, l, h1, h2 => Pcs.get b i y l h1 h2
theorem Pcs.snoc {h : za} {y : AVal} {l : List UInt8} (hy : ∃ R, SlX h 1 y (l.map bc) R) : ∀ {ys : List AVal} {ls : List (List UInt8)}, Pcs h ys ls -> Pcs h (ys ++ [y]) (ls ++ [l])
 | [], [], _ => ⟨hy, trivial⟩
 | _ :: _, _ :: _, ⟨a, b⟩ => ⟨a, Pcs.snoc hy b⟩
theorem Owns.cutAt {h0 h : za} {l : List Ob} (ho : Owns h0 h l) (k : Nat) {es : Nat} {x : AVal} {L R : List (List AVal)} (hk : l[k]? = some (.sl es x L R)) : Owns h0 h (l.set k (.sl es x L [])) :=
 ho.turn k hk (o' := .sl es x L []) (SlX.cut (ho.slAt k hk)) (fun id b hf hb => ho.zl1 k hk id b hf hb) (fun _ _ h _ => h) (.inl rfl)
def zfb.Spec (C : CSem) (N : zN) : Prop := ∀ (x : AVal) (xs : List AVal) (L : List (List UInt8)) (R : List (List AVal)) (h : za) (Q : zQ), SlX h 1 x (xs.map fun y => [y]) R -> Pcs h xs L -> L.length <= 1000 -> L.flatten.length <= 100000000 ->
 (∀ x' h', Owns h h' [bOb false x' L.flatten] -> Q x' h') -> C (N 424) [x] h Q
theorem zfb.spec (i : zfb.Imp C N) (s1 : zh.Spec C N) : zfb.Spec C N := by
 intro x xs L R h Q hx hp h1 h2 hq
 apply i
 simp -dsimp only [zfb.cps]
 exact s1 x xs L R h _ hx hp.len hp.get h1 h2 fun x' h' R' o => zk (hq x' h' (o.cutAt 0 rfl))
abbrev ziu (p out : AVal) (P : List (Row × (AVal × AVal))) : List Ob := .box p [out] :: .sl 2 out (P.map rowK.cs) [] :: rowK.os false P
def zep.Spec (C : CSem) (N : zN) : Prop := ∀ (h0 h : za) (p out k : AVal) (P : List (Row × (AVal × AVal))) (key : List UInt8) (x : AVal) (xs : List AVal) (L : List (List UInt8)) (R : List (List AVal)) (Q : zQ),
 Owns h0 h (ziu p out P ++ [bOb false k key]) -> SlX h 1 x (xs.map fun y => [y]) R -> Pcs h xs L -> L.length <= 1000 -> L.flatten.length <= 100000000 -> P.length <= 1000000 ->
 (∀ out' v h', Owns h0 h' (ziu p out' (P ++ [(⟨key, L.flatten⟩, (k, v))])) -> Q (.tup []) h') -> C (N 425) [k, x, p] h Q
theorem zep.spec (i : zep.Imp C N) (s1 : zfb.Spec C N) : zep.Spec C N := by
 intro h0 h p out k P key x xs L R Q ho hx hp h1 h2 h3 hq
 apply i
 obtain ⟨id, rfl, hb⟩ := ho.zgp 0 rfl
 have hk : k.zi = true := ((ho.is (bOb false k key) (by simp)) : (bOb false k key).at h).zi
 simp -dsimp [zd2 hb]
 refine s1 x xs L R h _ hx hp h1 h2 fun v h4 o4 => ?_
 have oj := ho.join o4
 obtain ⟨id', e, hb4⟩ := oj.zgp 0 rfl
 cases e
 have hv : v.zi = true := ((o4.is (bOb false v L.flatten) (by simp)) : (bOb false v L.flatten).at h4).zi
 refine keepD1 ⟨out, by simp [zd2 hb], by simp [zd2 hb4]⟩ ?_
 simp -dsimp [hk, hv]
 refine oj.push 1 rfl rfl (by omega) (by simp; omega) (by simp [maxLen]; omega) fun out' h5 o5 _ => ?_
 have c5 : out'.zi = true := (o5.slAt 1 rfl).zi
 refine o5.zkj 0 rfl c5 (by simp) fun h6 o6 _ => ?_
 refine zk (hq out' v h6 ?_)
 unfold ziu
 rw [DK.zka, DK.zur, List.map_append]
 simpa [rowK] using o6
end Go.Ab
namespace Go.Ab
variable {C : CSem} {N : zN}
theorem Owns.lay {h0 h : za} {l l' : List Ob} (ho : Owns h0 h (l ++ l')) : ∃ hb : za, h0.le hb /\ hb.le h /\ Owns hb h l /\ zth hb l' := by
 obtain ⟨q1, q2⟩ := (ho.perm List.perm_append_comm).out
 exact ⟨_, q1.le, q2.le, q2, q1.is⟩
theorem zt7 : ∀ ys : List AVal, (ys.map fun y => [y]).flatten = ys
 | [] => rfl
 | y :: r => by rw [List.map_cons, List.flatten_cons, zt7 r]; rfl
theorem zdt {hb hh h1 : za} {l : List Ob} {x : AVal} {M : List UInt8} {xs : List AVal} {L : List (List UInt8)} (ho : Owns hb hh l) (hp : Pcs hb xs L) (o1 : Owns hh h1 [.sl 1 x (M.map bc) []]) :
  ∃ hb' : za, hb.le hb' /\ Owns hb' h1 l /\ Pcs hb' (xs ++ [x]) (L ++ [M]) := by
 obtain ⟨b, m1, m2, o, a⟩ := (ho.join o1).lay
 exact ⟨b, m1, o, (hp.mono m1).snoc ⟨[], a (.sl 1 x (M.map bc) []) (by simp)⟩⟩
theorem zf2 {h : za} {s : List UInt8} {cs : List AVal} (n : Nat) {K : Nat -> za -> Prop} (hcs : cs = s.map fun b => .int .u8 (b.toNat : Int)) (hn : n = s.length) (hk : ∀ id h', Owns h h' [.sl 1 (.sl id 0 0 n 1 n) (s.map bc) []] -> K id h') :
  B.newO h (some cs) K := fun id hid => by
 refine hk _ _ ?_
 exact (Owns.start h).zmz (L := s.map bc) (R := []) hid (by simp) (by simpa using hn) (by simp; omega) (by rw [List.append_nil, bc_flat, hcs])
theorem zju {h0 h : za} {x : AVal} {s : List UInt8} {K : AVal -> Prop} (ho : Owns h0 h [.sl 1 x (s.map bc) []]) (hs : s ≠ []) (hk : K x) : B.conv h x K := by
 have hx := ho.slAt 0 rfl
 rcases hx.at_ with ⟨e, _⟩ | ⟨id, g, off, cp, b, hi, h1, h1', h2, h3, h4, hh, h5⟩
 ·exact absurd (List.map_eq_nil_iff.1 e) hs
 ·subst h1
  have := ho.zl1 0 rfl id b rfl h2
  have hl : 0 < s.length := List.length_pos_iff.2 hs
  simp only [B.conv, A.conv, h2, h3, this, Option.isSome_some]
  refine ⟨?_, hk⟩
  simp; omega
theorem appLit {hb hh : za} {l : List Ob} {v : AVal} {xs ys : List AVal} {m : Nat} {K : zQ} (ho : Owns hb hh (l ++ [.sl 1 v (xs.map fun y => [y]) []])) (hm : m = ys.length) (hl : xs.length + ys.length <= 1000)
  (hK : ∀ v' h', Owns hb h' (l ++ [.sl 1 v' ((xs ++ ys).map fun y => [y]) []]) -> K v' h') : B.newO hh (some ys) fun i h => B.appW h 1 24 v (.sl i 0 0 m 1 m) K := fun id hid => by
 have hf : ys = ((ys.map fun y => [y]) ++ []).flatten := by rw [List.append_nil, zt7]
 refine (ho.grow (zhf _ hid)).appW l.length ziv (M := ys.map fun y => [y]) (R' := []) (SlX.lit (zbj ..) (by simp) (by simpa using hm) (by simp; omega) hf) Nat.one_pos (by simp; omega) (by simp [maxLen]; omega) fun v' h' o1 _ => hK v' h' ?_
 rw [zs0] at o1
 rw [List.map_append]; exact o1
theorem zrb {hb hh : za} {l : List Ob} {ys : List AVal} (m : Nat) {K : Nat -> za -> Prop} (ho : Owns hb hh l) (hm : m = ys.length)
  (hK : ∀ id h', hh.le h' -> Owns hb h' (l ++ [.sl 1 (.sl id 0 0 m 1 m) (ys.map fun y => [y]) []]) -> K id h') : B.newO hh (some ys) K := fun id hid => by
 have hf : ys = ((ys.map fun y => [y]) ++ []).flatten := by rw [List.append_nil, zt7]
 exact hK _ _ (zhf _ hid) (ho.zmz hid (by simp) (by simpa using hm) (by simp; omega) hf)
theorem zsb {t : Itm} (h : zil t = true) : t.zek.length <= 8 /\ t.zd0.length <= 4 /\ (∀ p ∈ t.zek, zbm p.Item = true) /\ zbm t.Code = true /\ ∀ o ∈ t.zd0, zbm o = true := by
 unfold zil zlr at h
 simp only [Bool.and_eq_true, List.all_eq_true, List.length_cons, decide_eq_true_eq] at h
 obtain ⟨⟨h1, h2, h3⟩, h4⟩ := h
 refine ⟨?_, by omega, ?_, h1 _ (by simp), fun o ho => h1 o (by simp [ho])⟩
 ·by_cases e : t.zek = []
  ·rw [e]; simp
  ·rw [decide_eq_false e] at h4
   simp only [cond_false, Bool.and_eq_true, decide_eq_true_eq] at h4
   have := h4.2.2.2.2
   unfold zul at this
   simpa using this
 ·by_cases e : t.zek = []
  ·rw [e]; simp
  ·rw [decide_eq_false e] at h4
   simp only [cond_false, Bool.and_eq_true, List.all_eq_true] at h4
   exact fun p hp => h4.2.2.1 _ (List.mem_map.2 ⟨p, hp, rfl⟩)
theorem ztp {T : Type} {ok : T -> Bool} {lt : T -> T -> Bool} : ∀ {l : List T} {p : Option T}, ordB ok lt p l = true -> ∀ x ∈ l, ok x = true
 | [], _, _, x, hx => by cases hx
 | a :: l, p, h, x, hx => by
  rw [ordB] at h
  simp only [Bool.and_eq_true] at h
  rcases List.mem_cons.1 hx with rfl | hx
  ·exact h.1.1
  ·exact ztp h.2 x hx
end Go.Ab
namespace Go.Ab
variable {C : CSem} {N : zN}
theorem numPut (s1 : zcm.Spec C N) (s2 : zep.Spec C N) {h0 h : za} {p out k : AVal} {P : List (Row × (AVal × AVal))} {key : List UInt8} {n : Int} {j : Nat} {K : zQ} (ho : Owns h0 h (ziu p out P ++ [bOb false k key])) (hj : j <= 8) (hP : P.length <= 1000000)
  (hK : ∀ out' v h', Owns h0 h' (ziu p out' (P ++ [(⟨key, be n j⟩, (k, v))])) -> K (.tup []) h') :
  B.call C (N 423) [.int .i64 n, .int .i64 (j : Int)] h fun v26 h => B.newO h (zcr [(0, none, v26)] (repL 1 [.nils])) fun i27 h => B.zki h C (.fn (N 425) [] [p]) [k, .sl i27 0 0 1 1 1] K := by
 refine s1 n j _ _ hj fun x' h1 o1 => ?_
 have c := (o1.slAt 0 rfl).zi
 simp -dsimp [c]
 refine zrb 1 (ho.join o1) rfl (ys := [x']) fun id h2 hle o2 => ?_
 generalize AVal.sl id 0 0 1 1 1 = v at *
 simp -dsimp only [B.zrn, List.nil_append, List.cons_append]
 have hx : SlX h2 1 x' ((be n j).map bc) [] := o2.is (.sl 1 x' ((be n j).map bc) []) (by simp)
 have hv : SlX h2 1 v ([x'].map fun y => [y]) [] := o2.is (.sl 1 v ([x'].map fun y => [y]) []) (by simp)
 refine s2 h0 h2 p out k P key v [x'] [be n j] [] _ (o2.sub (by simp)) hv ⟨⟨_, hx⟩, trivial⟩ (by simp) (by simp; omega) hP fun out' w h3 o3 => hK out' w h3 ?_
 simpa using o3
theorem All_lines (s1 : zcm.Spec C N) (s2 : zep.Spec C N) (s3 : zfe.Spec C N) (s4 : zfb.Spec C N) {h0 h : za} {s : Sta} {p z out : AVal} {R : List (List AVal)} {P : List (Row × (AVal × AVal))} {Q : zQ} (hn : SlX h0 8 z (s.zel.map Line.cs) R) (hl : P.length + s.zel.length <= 1000000) (ho : Owns h0 h (ziu p out P))
  (hq : ∀ out' P' h', P'.map (·.1) = P.map (·.1) ++ s.zel.map zi1 -> Owns h0 h' (ziu p out' P') -> Q out' h') :
  ze (z9.l2 C N Q p (.fn (N 425) [] [p]) z (.int .i64 s.zel.length)) [.int .i64 0] h := by
 refine ze.intro (fun n vs hh => ∃ (k : Nat) (out : AVal) (P' : List (Row × (AVal × AVal))), k + n = s.zel.length /\ vs = [.int .i64 (k : Int)] /\ P'.map (·.1) = P.map (·.1) ++ (s.zel.take k).map zi1 /\ Owns h0 hh (ziu p out P')) s.zel.length ?_ ⟨0, out, P, by simp, rfl, by simp, ho⟩
 rintro Y n vs hh ⟨k, out, P', hk, rfl, hP', ho⟩ hY
 have hPl := congrArg List.length hP'
 simp only [List.length_map, List.length_append, List.length_take] at hPl
 simp -dsimp only [z9.l2, z9.k1, lssN, B.zf]
 refine B.zd (fun hc => ?_) (fun hc => ?_)
 ·rw [decide_eq_true_eq] at hc
  obtain ⟨w, hw⟩ := zc5 hc
  have hkl : k < (s.zel.map Line.cs).length := by simpa using hc
  have e1 : V.idxS 8 z (.int .i64 (k : Int)) = some (elp 8 z k 0) := hn.idxN hkl
  have e2 := (hn.mono ho.le).elem (get_map hw)
  have e3 : IntKind.u8.wrap w.Rank = ((byt w.Rank).toNat : Int) := zj1 _
  simp -dsimp [e1, e2, e3]
  refine s1 w.Id 8 _ _ (by omega) fun a1 h1 o1 => ?_
  obtain ⟨b1, m1, ho1, p1⟩ := zdt (xs := []) (L := []) ho trivial o1
  simp -dsimp
  refine zf2 1 (s := [111]) rfl rfl fun i153 h2 o2 => ?_
  refine zju o2 (by simp) ?_
  obtain ⟨b2, m2, ho2, p2⟩ := zdt ho1 p1 o2
  generalize AVal.sl i153 0 0 1 1 1 = a2 at *
  have c1 := (p2.get 0 a1 _ rfl rfl).elim fun _ r => r.zi
  have c2 := (p2.get 1 a2 _ rfl rfl).elim fun _ r => r.zi
  simp -dsimp [c1, c2]
  refine zrb 2 ho2 rfl (ys := [a2, a1]) fun i158 h3 hle3 o3 => ?_
  generalize AVal.sl i158 0 0 2 1 2 = a3 at *
  have p3 := p2.mono (za.le_trans ho2.le hle3)
  refine s4 a3 [a2, a1] [[111], be w.Id 8] [] _ _ (o3.is (.sl 1 a3 ([a2, a1].map fun y => [y]) []) (by simp)) ⟨p3.2.1, p3.1, trivial⟩ (by simp) (by simp) fun key h4 o4 => ?_
  have ho4 : Owns b2 h4 (ziu p out P' ++ [bOb false key ([[111], be w.Id 8].flatten)]) := (o3.join o4).sub ((List.sublist_append_left _ _).append_right _)
  refine s3 w.Item _ _ fun a5 h5 o5 => ?_
  obtain ⟨b5, m5, ho5, p5⟩ := zdt (xs := []) (L := []) ho4 trivial o5
  refine s1 w.Qty 4 _ _ (by omega) fun a6 h6 o6 => ?_
  obtain ⟨b6, m6, ho6, p6⟩ := zdt ho5 p5 o6
  refine s1 w.zvr 2 _ _ (by omega) fun a7 h7 o7 => ?_
  obtain ⟨b7, m7, ho7, p7⟩ := zdt ho6 p6 o7
  refine s1 (IntKind.i64.wrap (w.Day + 1)) 2 _ _ (by omega) fun a8 h8 o8 => ?_
  obtain ⟨b8, m8, ho8, p8⟩ := zdt ho7 p7 o8
  refine s3 w.Code _ _ fun a9 h9 o9 => ?_
  obtain ⟨b9, m9, ho9, p9⟩ := zdt ho8 p8 o9
  simp -dsimp
  refine zf2 2 (s := [byt w.Rank, w.State]) rfl rfl fun i174 h10 o10 => ?_
  obtain ⟨b10, m10, ho10, p10⟩ := zdt ho9 p9 o10
  generalize AVal.sl i174 0 0 2 1 2 = a10 at *
  have c5 := (p10.get 0 a5 _ rfl rfl).elim fun _ r => r.zi
  have c6 := (p10.get 1 a6 _ rfl rfl).elim fun _ r => r.zi
  have c7 := (p10.get 2 a7 _ rfl rfl).elim fun _ r => r.zi
  have c8 := (p10.get 3 a8 _ rfl rfl).elim fun _ r => r.zi
  have c9 := (p10.get 4 a9 _ rfl rfl).elim fun _ r => r.zi
  have c10 := (p10.get 5 a10 _ rfl rfl).elim fun _ r => r.zi
  simp -dsimp [c5, c6, c7, c8, c9, c10]
  refine zrb 6 ho10 rfl (ys := [a5, a6, a7, a10, a8, a9]) fun i182 h11 hle11 o11 => ?_
  generalize AVal.sl i182 0 0 6 1 6 = a11 at *
  have p11 := p10.mono (za.le_trans ho10.le hle11)
  simp -dsimp only [B.zrn, List.nil_append, List.cons_append]
  refine s2 b10 h11 p out key P' _ a11 [a5, a6, a7, a10, a8, a9] [zdr w.Item, be w.Qty 4, be w.zvr 2, [byt w.Rank, w.State], be (IntKind.i64.wrap (w.Day + 1)) 2, zdr w.Code] [] _ (o11.sub (List.sublist_append_left _ _)) (o11.is (.sl 1 a11 ([a5, a6, a7, a10, a8, a9].map fun y => [y]) []) (by simp)) ⟨p11.1, p11.2.1, p11.2.2.1, p11.2.2.2.2.2.1, p11.2.2.2.1, p11.2.2.2.2.1, trivial⟩ (by simp) ?_ (by omega) fun out' v h12 o12 => ?_
  ·have h1 := zdq w.Item
   have h2 := zdq w.Code
   simp
   omega
  ·simp -dsimp only [add1 (show k < 4611686018427387904 by omega), B.zf]
   refine hY (s.zel.length - (k + 1)) _ _ (by omega) ⟨k + 1, out', _, by omega, rfl, ?_, o12.back ?_⟩
   ·rw [List.map_append, hP', take_succ hw, List.map_append, List.append_assoc]
    have e : be (IntKind.i64.wrap (w.Day + 1)) 2 = be (w.Day + 1) 2 := be_congr (by rw [IntKind.wrap_i64]; omega) 2 (by omega)
    simp [zi1, lineVal, e]
   ·exact za.le_trans m1 (za.le_trans m2 (za.le_trans m5 (za.le_trans m6 (za.le_trans m7 (za.le_trans m8 (za.le_trans m9 m10))))))
 ·rw [decide_eq_false_iff_not] at hc
  have : k = s.zel.length := by omega
  subst this
  rw [List.take_length] at hP'
  obtain ⟨id, rfl, hb⟩ := ho.zgp 0 rfl
  simp -dsimp [zd2 hb]
  exact hq out P' hh hP' ho
end Go.Ab
namespace Go.Ab
variable {C : CSem} {N : zN}
theorem All_lots (s1 : zcm.Spec C N) (s2 : zep.Spec C N) (s3 : zfe.Spec C N) (s4 : zfb.Spec C N) {h0 h : za} {s : Sta} {p x y z out : AVal} {R R2 : List (List AVal)} {P : List (Row × (AVal × AVal))} {Q : zQ} (hy : SlX h0 6 y (s.Lots.map Lot.cs) R) (hn : SlX h0 8 z (s.zel.map Line.cs) R2)
  (hl : P.length + s.Lots.length + s.zel.length <= 1000000) (ho : Owns h0 h (ziu p out P)) (hq : ∀ out' P' h', P'.map (·.1) = P.map (·.1) ++ (s.Lots.map zlk ++ s.zel.map zi1) -> Owns h0 h' (ziu p out' P') -> Q out' h') :
  ze (z9.l7 C N Q p (.fn (N 425) [] [p]) y (.int .i64 s.Lots.length) (.agg (zhq s x y z))) [.int .i64 0] h := by
 refine ze.intro (fun n vs hh => ∃ (k : Nat) (out : AVal) (P' : List (Row × (AVal × AVal))), k + n = s.Lots.length /\ vs = [.int .i64 (k : Int)] /\ P'.map (·.1) = P.map (·.1) ++ (s.Lots.take k).map zlk /\ Owns h0 hh (ziu p out P')) s.Lots.length ?_ ⟨0, out, P, by simp, rfl, by simp, ho⟩
 rintro Y n vs hh ⟨k, out, P', hk, rfl, hP', ho⟩ hY
 have hPl := congrArg List.length hP'
 simp only [List.length_map, List.length_append, List.length_take] at hPl
 simp -dsimp only [z9.l7, z9.k6, lssN, B.zf]
 refine B.zd (fun hc => ?_) (fun hc => ?_)
 ·rw [decide_eq_true_eq] at hc
  obtain ⟨w, hw⟩ := zc5 hc
  have hkl : k < (s.Lots.map Lot.cs).length := by simpa using hc
  have e1 : V.idxS 6 y (.int .i64 (k : Int)) = some (elp 6 y k 0) := hy.idxN hkl
  have e2 := (hy.mono ho.le).elem (get_map hw)
  have tail : ∀ (here : AVal) (b0 : za) (hh : za), h0.le b0 -> Owns b0 hh (ziu p out P') -> Pcs b0 [here] [[bif w.zkn then 1 else 0]] ->
    z9.k3 C N Q Y p (.fn (N 425) [] [p]) here y (.int .i64 s.Lots.length) (.int .i64 (k : Int)) (.agg (zhq s x y z)) (.agg w.cs) hh := by
   intro here b0 hh m0 ho p0
   simp -dsimp
   refine s1 w.Id 8 _ _ (by omega) fun a1 h1 o1 => ?_
   obtain ⟨b1, m1, ho1, p1⟩ := zdt ho p0 o1
   simp -dsimp
   refine zf2 1 (s := [108]) rfl rfl fun i153 h2 o2 => ?_
   refine zju o2 (by simp) ?_
   obtain ⟨b2, m2, ho2, p2⟩ := zdt ho1 p1 o2
   generalize AVal.sl i153 0 0 1 1 1 = a2 at *
   have c1 := (p2.get 1 a1 _ rfl rfl).elim fun _ r => r.zi
   have c2 := (p2.get 2 a2 _ rfl rfl).elim fun _ r => r.zi
   simp -dsimp [c1, c2]
   refine zrb 2 ho2 rfl (ys := [a2, a1]) fun i158 h3 hle3 o3 => ?_
   generalize AVal.sl i158 0 0 2 1 2 = a3 at *
   have p3 := p2.mono (za.le_trans ho2.le hle3)
   refine s4 a3 [a2, a1] [[108], be w.Id 8] [] _ _ (o3.is (.sl 1 a3 ([a2, a1].map fun y => [y]) []) (by simp)) ⟨p3.2.2.1, p3.2.1, trivial⟩ (by simp) (by simp) fun key h4 o4 => ?_
   have ho4 : Owns b2 h4 (ziu p out P' ++ [bOb false key ([[108], be w.Id 8].flatten)]) := (o3.join o4).sub ((List.sublist_append_left _ _).append_right _)
   refine s3 w.Item _ _ fun a5 h5 o5 => ?_
   obtain ⟨b5, m5, ho5, p5⟩ := zdt (xs := [here]) (L := [[bif w.zkn then 1 else 0]]) ho4 ⟨p2.1, trivial⟩ o5
   refine s1 w.From 2 _ _ (by omega) fun a6 h6 o6 => ?_
   obtain ⟨b6, m6, ho6, p6⟩ := zdt ho5 p5 o6
   refine s1 w.zrq 2 _ _ (by omega) fun a7 h7 o7 => ?_
   obtain ⟨b7, m7, ho7, p7⟩ := zdt ho6 p6 o7
   refine s1 w.Qty 4 _ _ (by omega) fun a8 h8 o8 => ?_
   obtain ⟨b8, m8, ho8, p8⟩ := zdt ho7 p7 o8
   have c0 := (p8.get 0 here _ rfl rfl).elim fun _ r => r.zi
   have c5 := (p8.get 1 a5 _ rfl rfl).elim fun _ r => r.zi
   have c6 := (p8.get 2 a6 _ rfl rfl).elim fun _ r => r.zi
   have c7 := (p8.get 3 a7 _ rfl rfl).elim fun _ r => r.zi
   have c8 := (p8.get 4 a8 _ rfl rfl).elim fun _ r => r.zi
   simp -dsimp [c0, c5, c6, c7, c8]
   refine zrb 5 ho8 rfl (ys := [a5, a6, a7, a8, here]) fun i182 h11 hle11 o11 => ?_
   generalize AVal.sl i182 0 0 5 1 5 = a11 at *
   have p11 := p8.mono (za.le_trans ho8.le hle11)
   simp -dsimp only [B.zrn, List.nil_append, List.cons_append]
   refine s2 b8 h11 p out key P' _ a11 [a5, a6, a7, a8, here] [zdr w.Item, be w.From 2, be w.zrq 2, be w.Qty 4, [bif w.zkn then 1 else 0]] [] _ (o11.sub (List.sublist_append_left _ _)) (o11.is (.sl 1 a11 ([a5, a6, a7, a8, here].map fun y => [y]) []) (by simp)) ⟨p11.2.1, p11.2.2.1, p11.2.2.2.1, p11.2.2.2.2.1, p11.1, trivial⟩ (by simp) ?_ (by omega) fun out' v h12 o12 => ?_
   ·have h1 := zdq w.Item
    simp
    omega
   ·simp -dsimp only [add1 (show k < 4611686018427387904 by omega), B.zf]
    refine hY (s.Lots.length - (k + 1)) _ _ (by omega) ⟨k + 1, out', _, by omega, rfl, ?_, o12.back ?_⟩
    ·rw [List.map_append, hP', take_succ hw, List.map_append, List.append_assoc]
     simp [zlk, lotVal]
    ·exact za.le_trans m0 (za.le_trans m1 (za.le_trans m2 (za.le_trans m5 (za.le_trans m6 (za.le_trans m7 m8)))))
  simp -dsimp only [z9.k5]
  simp -dsimp [e1, e2]
  refine zf2 1 (s := [0]) rfl rfl fun i114 h2 o2 => ?_
  generalize AVal.sl i114 0 0 1 1 1 = here at *
  have ho2 := ho.join o2
  refine B.zd (fun hb => ?_) (fun hb => ?_)
  ·have hx := ho2.slAt (ziu p out P').length ziv
   have e5 : V.idxS 1 here (.int .i64 0) = some (elp 1 here 0 0) := hx.idxN (i := 0) (by simp)
   simp -dsimp only [e5, B.zf]
   refine ho2.st (ziu p out P').length ziv (i := 0) (c := bc 0) rfl (by omega) rfl fun h3 o3 _ => ?_
   rw [zs0] at o3
   obtain ⟨b0, m0, _, o4, a⟩ := o3.lay
   refine tail here b0 h3 m0 o4 ⟨⟨[], ?_⟩, trivial⟩
   rw [hb]
   exact a _ (List.mem_singleton_self _)
  ·obtain ⟨b0, m0, _, o4, a⟩ := ho2.lay
   refine tail here b0 h2 m0 o4 ⟨⟨[], ?_⟩, trivial⟩
   rw [hb]
   exact a _ (List.mem_singleton_self _)
 ·rw [decide_eq_false_iff_not] at hc
  have : k = s.Lots.length := by omega
  subst this
  rw [List.take_length] at hP'
  have l3 := hn.zj
  rw [List.length_map] at l3
  simp -dsimp [l3]
  refine All_lines s1 s2 s3 s4 hn (by omega) ho fun out' P2 h' e o => hq out' P2 h' ?_ o
  rw [e, hP', List.append_assoc]
theorem V.bin_sadd (a b : List UInt8) (h : a.length + b.length <= 140737488355328) : V.bin .add (.str a) (.str b) = some (.str (a ++ b)) := by
 simp only [V.bin, V.strOp]
 rw [if_neg]
 simp only [IntKind.max, IntKind.bits, IntKind.signed]
 simp; omega
theorem flat2M {T : Type} (f g : T -> List UInt8) : ∀ l : List T, (l.flatMap fun p => [f p, g p]).flatten = l.flatMap fun p => f p ++ g p
 | [] => rfl
 | a :: l => by simp only [List.flatMap_cons, List.flatten_append, flat2M f g l]; simp
theorem flat1M {T : Type} (f : T -> List UInt8) (l : List T) : (l.map f).flatten = l.flatMap f := rfl
abbrev pcsOb (v : AVal) (xs : List AVal) : Ob := .sl 1 v (xs.map fun y => [y]) []
theorem All_items (s1 : zcm.Spec C N) (s2 : zep.Spec C N) (s3 : zfe.Spec C N) (s4 : zfb.Spec C N) {h0 h : za} {s : Sta} {p x y z out : AVal} {P : List (Row × (AVal × AVal))} {Q : zQ} (ha : zk8 h0 s x y z) (hk : ∀ t ∈ s.zem, zil t = true)
  (hl : P.length + s.zem.length + s.Lots.length + s.zel.length <= 1000000) (ho : Owns h0 h (ziu p out P)) (hq : ∀ out' P' h', P'.map (·.1) = P.map (·.1) ++ (s.zem.map zk6 ++ (s.Lots.map zlk ++ s.zel.map zi1)) -> Owns h0 h' (ziu p out' P') -> Q out' h') :
  ze (z9.l19 C N Q p (.fn (N 425) [] [p]) x (.int .i64 s.zem.length) (.agg (zhq s x y z))) [.int .i64 0] h := by
 obtain ⟨hi, ⟨R, hy⟩, ⟨R2, hn⟩, n1, n2, n3⟩ := ha
 refine ze.intro (fun n vs hh => ∃ (k : Nat) (out : AVal) (P' : List (Row × (AVal × AVal))), k + n = s.zem.length /\ vs = [.int .i64 (k : Int)] /\ P'.map (·.1) = P.map (·.1) ++ (s.zem.take k).map zk6 /\ Owns h0 hh (ziu p out P')) s.zem.length ?_ ⟨0, out, P, by simp, rfl, by simp, ho⟩
 rintro Y n vs hh ⟨k, out, P', hkn, rfl, hP', ho⟩ hY
 have hPl := congrArg List.length hP'
 simp only [List.length_map, List.length_append, List.length_take] at hPl
 simp -dsimp only [z9.l19, z9.k18, lssN, B.zf]
 refine B.zd (fun hc => ?_) (fun hc => ?_)
 ·rw [decide_eq_true_eq] at hc
  obtain ⟨w, hw⟩ := zc5 hc
  obtain ⟨P0, R0, eP0, s0, at0⟩ := hi
  obtain ⟨a, hq0⟩ : ∃ a, P0[k]? = some (w, a) := by
   rw [<- eP0, List.getElem?_map] at hw
   obtain ⟨q, h1, h2⟩ := Option.map_eq_some_iff.1 hw
   exact ⟨q.2, by rw [h1, <- h2]⟩
  have ea := slX_el (s0.mono ho.le) (fun p hp => ze3.mono ho.le (at0 p hp)) hq0
  simp only at ea
  obtain ⟨f1, f2, f3, f4, f5⟩ := zsb (hk w (List.mem_of_getElem? hw))
  obtain ⟨⟨Ra, ha1⟩, ⟨Rb, ha2⟩, _⟩ : (∃ R, SlX h0 2 a.1 (w.zek.map Part.cs) R) /\ (∃ R, SlX h0 1 a.2 (w.zd0.map tc) R) /\ w.ok := at0 _ (List.mem_of_getElem? hq0)
  have l1 := ha1.zj
  have l2 := ha2.zj
  rw [List.length_map] at l1 l2
  have e1 : V.idxS 4 x (.int .i64 (k : Int)) = some (elp 4 x k 0) := ea.idx
  have e2 : A.ldnv hh (elp 4 x k 0) 4 = some (.agg (ze3.cells w a)) := ea.ldn
  have e3 : V.setN 0 4 (.agg (ze3.cells w a)) (.agg [.str [], .int .i64 0, .nils, .nils]) = some (.agg (ze3.cells w a)) := zlc ze3 w a
  have u1 : IntKind.u8.wrap (w.zek.length : Int) = ((byt w.zek.length).toNat : Int) := zj1 _
  have u2 : IntKind.u8.wrap (w.zd0.length : Int) = ((byt w.zd0.length).toNat : Int) := zj1 _
  simp -dsimp only [z9.k17, e1, e2, e3, B.zhn, B.zf]
  simp -dsimp [ze3, l1, u1]
  refine s1 w.Life 2 _ _ (by omega) fun a1 h1 o1 => ?_
  obtain ⟨b1, m1, ho1, p1⟩ := zdt (xs := []) (L := []) ho trivial o1
  simp -dsimp
  refine zf2 1 (s := [byt w.zek.length]) rfl rfl fun i59 h2 o2 => ?_
  obtain ⟨b2, m2, ho2, p2⟩ := zdt ho1 p1 o2
  generalize AVal.sl i59 0 0 1 1 1 = a2 at *
  have c1 := (p2.get 0 a1 _ rfl rfl).elim fun _ r => r.zi
  have c2 := (p2.get 1 a2 _ rfl rfl).elim fun _ r => r.zi
  simp -dsimp [c1, c2]
  refine zrb 2 ho2 rfl (ys := [a1, a2]) fun i60 h3 hle3 ho3 => ?_
  generalize AVal.sl i60 0 0 2 1 2 = v0 at *
  have m03 : h0.le b2 := za.le_trans m1 m2
  simp -dsimp [ze3, l1]
  have ep3 : Pcs b2 [a1, a2] ([be w.Life 2, [byt w.zek.length]] ++ (w.zek.take 0).flatMap fun p => [zdr p.Item, be p.Qty 4]) := p2
  refine ze.intro (fun t vs hh => ∃ (j : Nat) (v : AVal) (xs : List AVal) (b : za), j + t = w.zek.length /\ vs = [v, .int .i64 (j : Int)] /\ h0.le b /\ Owns b hh (ziu p out P' ++ [pcsOb v xs]) /\ Pcs b xs ([be w.Life 2, [byt w.zek.length]] ++ (w.zek.take j).flatMap fun p => [zdr p.Item, be p.Qty 4])) w.zek.length ?_ ⟨0, v0, [a1, a2], b2, by omega, rfl, m03, ho3, ep3⟩
  rintro Y5 t vs h4 ⟨j, v, xs, b, hj, rfl, m4, ho4, p4⟩ hY5
  have hxl := p4.len
  have hcnt : ∀ j, (([be w.Life 2, [byt w.zek.length]] ++ (w.zek.take j).flatMap fun p => [zdr p.Item, be p.Qty 4]) : List (List UInt8)).length <= 2 + 2 * j := fun j => by
   have : ∀ l : List Part, (l.flatMap fun p => [zdr p.Item, be p.Qty 4]).length = 2 * l.length := fun l => by
    induction l with
    | nil => rfl
    | cons a l ih => rw [List.flatMap_cons, List.length_append, ih]; simp; omega
   rw [List.length_append, this, List.length_take]
   simp; omega
  simp -dsimp only [z9.l14, z9.k13, lssN, B.zf]
  refine B.zd (fun hd => ?_) (fun hd => ?_)
  ·rw [decide_eq_true_eq] at hd
   obtain ⟨q, hq⟩ := zc5 hd
   have hjl : j < (w.zek.map Part.cs).length := by simpa using hd
   have g1 : V.idxS 2 a.1 (.int .i64 (j : Int)) = some (elp 2 a.1 j 0) := ha1.idxN hjl
   have g2 := (ha1.mono (za.le_trans m4 ho4.le)).elem (get_map hq)
   simp -dsimp [g1, g2]
   refine s3 q.Item _ _ fun a5 h5 o5 => ?_
   obtain ⟨b5, m5, ho5, p5⟩ := zdt ho4 p4 o5
   refine s1 q.Qty 4 _ _ (by omega) fun a6 h6 o6 => ?_
   obtain ⟨b6, m6, ho6, p6⟩ := zdt ho5 p5 o6
   have c5 : a5.zi = true := (o5.slAt 0 rfl).zi
   have c6 : a6.zi = true := (o6.slAt 0 rfl).zi
   simp -dsimp [c5, c6]
   have := hcnt j
   refine appLit (ys := [a5, a6]) ho6 rfl (by simp; omega) fun v' h7 ho7 => ?_
   simp -dsimp only [add1 (show j < 4611686018427387904 by omega), B.zf]
   refine hY5 (t - 1) _ _ (by omega) ⟨j + 1, v', xs ++ [a5, a6], b6, by omega, rfl, za.le_trans m4 (za.le_trans m5 m6), ho7, ?_⟩
   rw [take_succ hq, List.flatMap_append]
   simpa using p6
  ·rw [decide_eq_false_iff_not] at hd
   have : j = w.zek.length := by omega
   subst this
   rw [List.take_length] at p4
   have hc0 := hcnt w.zek.length
   rw [List.take_length] at hc0
   generalize hL : ([be w.Life 2, [byt w.zek.length]] ++ w.zek.flatMap fun p => [zdr p.Item, be p.Qty 4] : List (List UInt8)) = L0 at *
   have hxl := p4.len
   simp -dsimp [l2, u2]
   refine zf2 1 (s := [byt w.zd0.length]) rfl rfl fun i83 h5 o5 => ?_
   obtain ⟨b5, m5, ho5, p5⟩ := zdt ho4 p4 o5
   generalize AVal.sl i83 0 0 1 1 1 = a3 at *
   have c3 : a3.zi = true := (o5.slAt 0 rfl).zi
   simp -dsimp [c3]
   refine appLit (ys := [a3]) ho5 rfl (by simp; omega) fun v1 h6 ho6 => ?_
   simp -dsimp [l2]
   refine ze.intro (fun t vs hh => ∃ (j : Nat) (v : AVal) (xs : List AVal) (b : za), j + t = w.zd0.length /\ vs = [v, .int .i64 (j : Int)] /\ h0.le b /\ Owns b hh (ziu p out P' ++ [pcsOb v xs]) /\ Pcs b xs (L0 ++ [[byt w.zd0.length]] ++ (w.zd0.take j).map zdr)) w.zd0.length ?_ ⟨0, v1, xs ++ [a3], b5, by omega, rfl, za.le_trans m4 m5, ho6, by simpa using p5⟩
   rintro Y6 t2 vs h7 ⟨j, v, xs, b, hj2, rfl, m7, ho7, p7⟩ hY6
   have hxl := p7.len
   simp only [List.length_append, List.length_map, List.length_take, List.length_cons, List.length_nil] at hxl
   simp -dsimp only [z9.l10, z9.k9, lssN, B.zf]
   refine B.zd (fun he => ?_) (fun he => ?_)
   ·rw [decide_eq_true_eq] at he
    obtain ⟨q, hq⟩ := zc5 he
    have hjl : j < (w.zd0.map tc).length := by simpa using he
    have g1 : V.idxS 1 a.2 (.int .i64 (j : Int)) = some (elp 1 a.2 j 0) := ha2.idxN hjl
    have g2 : A.ldv h7 (elp 1 a.2 j 0) = some (.str q) := (ha2.mono (za.le_trans m7 ho7.le)).cell (get_map hq)
    simp -dsimp only [g1, g2, B.zg6, B.zf]
    refine s3 q _ _ fun a5 h8 o8 => ?_
    obtain ⟨b8, m8, ho8, p8⟩ := zdt ho7 p7 o8
    have c5 : a5.zi = true := (o8.slAt 0 rfl).zi
    simp -dsimp [c5]
    refine appLit (ys := [a5]) ho8 rfl (by simp; omega) fun v' h9 ho9 => ?_
    simp -dsimp only [add1 (show j < 4611686018427387904 by omega), B.zf]
    refine hY6 (t2 - 1) _ _ (by omega) ⟨j + 1, v', xs ++ [a5], b8, by omega, rfl, za.le_trans m7 m8, ho9, ?_⟩
    rw [take_succ hq, List.map_append, <- List.append_assoc]
    exact p8
   ·rw [decide_eq_false_iff_not] at he
    have : j = w.zd0.length := by omega
    subst this
    rw [List.take_length] at p7
    have ef : (L0 ++ [[byt w.zd0.length]] ++ w.zd0.map zdr).flatten = zl6 w := by
     rw [<- hL]
     simp only [List.flatten_append, flat2M, flat1M, zl6]
     simp
    have g1 := zg2 (f := fun p : Part => zdr p.Item ++ be p.Qty 4) (m := 17) (fun p => by have := zdq p.Item; simp; omega) w.zek
    have g2 := zg2 (f := zdr) (m := 13) zdq w.zd0
    have el : (zl6 w).length <= 1000 := by
     unfold zl6
     simp only [List.length_append, List.length_cons, zhi]
     omega
    have fc : (105 :: w.Code).length <= far := by
     have : w.Code.length <= 12 := by
      unfold zbm at f4
      simp only [Bool.and_eq_true, decide_eq_true_eq] at f4
      exact f4.1.2
     unfold far; simp; omega
    have es : V.bin .add (.str [105]) (.str w.Code) = some (.str (105 :: w.Code)) := V.bin_sadd [105] w.Code (by unfold far at fc; simp at fc ⊢; omega)
    simp -dsimp [es]
    refine zso (s := 105 :: w.Code) fc fun key h8 o8 => ?_
    have ho8 : Owns b h8 (ziu p out P' ++ [bOb false key (105 :: w.Code)]) := (ho7.join o8).sub ((List.sublist_append_left _ _).append_right _)
    have hv8 : SlX h8 1 v (xs.map fun y => [y]) [] := (ho7.join o8).is (pcsOb v xs) (by simp)
    simp -dsimp only [B.zrn, List.nil_append, List.cons_append]
    refine s2 b h8 p out key P' _ v xs _ [] _ ho8 hv8 (p7.mono ho8.le) (by simp; omega) (by rw [ef]; omega) (by omega) fun out' u h9 o9 => ?_
    simp -dsimp only [add1 (show k < 4611686018427387904 by omega), B.zf]
    rw [ef] at o9
    refine hY (n - 1) _ _ (by omega) ⟨k + 1, out', _, by omega, rfl, ?_, o9.back m7⟩
    rw [List.map_append, hP', take_succ hw, List.map_append, List.append_assoc]
    rfl
 ·rw [decide_eq_false_iff_not] at hc
  have : k = s.zem.length := by omega
  subst this
  rw [List.take_length] at hP'
  have l2 := hy.zj
  rw [List.length_map] at l2
  simp -dsimp [l2]
  refine All_lots s1 s2 s3 s4 hy hn (by omega) ho fun out' P2 h' e o => hq out' P2 h' ?_ o
  rw [e, hP', List.append_assoc]
end Go.Ab
namespace Go.Ab
variable {C : CSem} {N : zN}
def z9.Spec (C : CSem) (N : zN) : Prop := ∀ (s : Sta) (x y z : AVal) (h : za) (Q : zQ), zk8 h s x y z -> s.zem.length + s.Lots.length + s.zel.length <= 100000 ->
 (∀ x' P h', P.map (·.1) = allRows s -> Df rowK h h' x' P -> Q x' h') -> C (N 412) [.agg (zhq s x y z)] h Q
theorem z9.spec (i : z9.Imp C N) (s0 : zb1.Spec C N) (s1 : zcm.Spec C N) (s2 : zep.Spec C N) (s3 : zfe.Spec C N) (s4 : zfb.Spec C N) : z9.Spec C N := by
 intro s x y z h Q ha hlen hq
 have hx := ha.items.zi
 have hy : y.zi = true := ha.lots.elim fun _ r => r.zi
 have hz : z.zi = true := ha.lines.elim fun _ r => r.zi
 have l1 := ha.items.zj
 apply i
 simp -dsimp
 refine s0 s x y z h _ ha ?_
 simp -dsimp
 refine B.zd (fun hb => ?_) (fun hb => ?_)
 ·have hb : zg5 s = false := by simpa using hb
  refine zk (hq .nils [] h (by unfold allRows; rw [hb]; rfl) (by simpa [Df, DK.os] using (Owns.start h).nils rowK.n))
 ·have hb : zg5 s = true := by simpa using hb
  intro i3 hi3
  have o0 := ((Owns.start h).zkd hi3 [.nils]).nils 2
  generalize upd h i3 (zee [.nils]) = h1 at *
  generalize hp : AVal.ptr i3 0 0 = p at *
  have o0 : Owns h h1 (ziu p .nils []) := o0
  simp -dsimp
  refine zf2 4 (s := [42, 100, 97, 121]) rfl rfl fun i22 h2 o2 => ?_
  refine zju o2 (by simp) ?_
  generalize AVal.sl i22 0 0 4 1 4 = k1 at *
  have o3 : Owns h h2 (ziu p .nils [] ++ [bOb false k1 [42, 100, 97, 121]]) := o0.join o2
  simp -dsimp
  refine numPut (j := 2) s1 s2 o3 (by omega) (by simp) fun out1 v1 h3 o4 => ?_
  simp -dsimp
  refine zf2 5 (s := [42, 108, 105, 110, 101]) rfl rfl fun i30 h4 o5 => ?_
  refine zju o5 (by simp) ?_
  generalize AVal.sl i30 0 0 5 1 5 = k2 at *
  have o6 := o4.join o5
  simp -dsimp
  refine numPut (j := 8) s1 s2 o6 (by omega) (by simp) fun out2 v2 h5 o7 => ?_
  simp -dsimp
  refine zf2 4 (s := [42, 108, 111, 116]) rfl rfl fun i38 h6 o8 => ?_
  refine zju o8 (by simp) ?_
  generalize AVal.sl i38 0 0 4 1 4 = k3 at *
  have o9 := o7.join o8
  simp -dsimp
  refine numPut (j := 8) s1 s2 o9 (by omega) (by simp) fun out3 v3 h7 o10 => ?_
  simp -dsimp [l1]
  have hk : ∀ t ∈ s.zem, zil t = true := by
   unfold zg5 zu1 at hb
   simp only [Bool.and_eq_true] at hb
   exact ztp hb.2.1
  refine All_items s1 s2 s3 s4 ha hk (by simp; omega) o10 fun out' P' h8 e o => zk (hq out' P' h8 ?_ (o.sub (List.sublist_cons_self _ _)))
  rw [e]
  unfold allRows
  rw [hb]
  rfl
end Go.Ab
namespace Go.Ab
def zew : Sta := ⟨0, 0, 0, [], [], []⟩
def zpn (x : Row) (s : Sta) : Sta × Bool :=
 if x.Key = [42, 100, 97, 121] then ({ s with Now := (rNum x.Value 2 ⟨0, false⟩).1 }, (rNum x.Value 2 ⟨0, false⟩).2.bad)
 else if x.Key = [42, 108, 111, 116] then ({ s with zg3 := (rNum x.Value 8 ⟨0, false⟩).1 }, (rNum x.Value 8 ⟨0, false⟩).2.bad)
 else if x.Key = [42, 108, 105, 110, 101] then ({ s with zf3 := (rNum x.Value 8 ⟨0, false⟩).1 }, (rNum x.Value 8 ⟨0, false⟩).2.bad)
 else if x.Key.head? = some 105 then ({ s with zem := s.zem ++ [(zmn x.Value (x.Key.drop 1) ⟨0, false⟩).1] }, (zmn x.Value (x.Key.drop 1) ⟨0, false⟩).2.bad)
 else if x.Key.head? = some 108 then ({ s with Lots := s.Lots ++ [(zk4 x.Value (rNum (x.Key.drop 1) 8 ⟨0, false⟩).1 ⟨0, false⟩).1] }, (zk4 x.Value (rNum (x.Key.drop 1) 8 ⟨0, false⟩).1 ⟨0, false⟩).2.bad || (rNum (x.Key.drop 1) 8 ⟨0, false⟩).2.bad)
 else if x.Key.head? = some 111 then ({ s with zel := s.zel ++ [(zi7 x.Value (rNum (x.Key.drop 1) 8 ⟨0, false⟩).1 ⟨0, false⟩).1] }, (zi7 x.Value (rNum (x.Key.drop 1) 8 ⟨0, false⟩).1 ⟨0, false⟩).2.bad || (rNum (x.Key.drop 1) 8 ⟨0, false⟩).2.bad)
 else (s, true)
def outB (p : Option Row) (x : Row) : Bool := (match p with | some q => decide (0 <= cmpB q.Key x.Key) | none => false) || decide (x.Key = [])
def zmd : List Row -> Option Row -> Sta -> List Row -> Option (Sta × List Row)
 | [], _, s, m => some (s, m)
 | x :: l, p, s, m => if outB p x = true then none else if x.Key.head? = some 97 then zmd l (some x) s m else if (zpn x s).2 = true then none else zmd l (some x) (zpn x s).1 (m ++ [x])
def stEnd : Option (Sta × List Row) -> Sta × Int
 | some (s, m) => if allRows s = m /\ m ≠ [] then (s, 0) else (zew, 4)
 | none => (zew, 4)
def zfg (l : List Row) : Sta × Int := stEnd (zmd l none zew [])
end Go.Ab
