/- What is proved: a part of the way to the statement: Ctell. No conditions. -/
import Derived.Test.YtljejbplojnnpaaGreatQ6
import Derived.Test.YtljejbplojnnpaaGreatQ7
import Derived.Test.YtljejbplojnnpaaGreatQ3
import Derived.KernelRfl
set_option linter.unusedVariables false
set_option linter.unusedSimpArgs false
namespace Go.Ab
variable {C : CSem} {N : zN}
def zgv (l : Lot) : Bool := decide (0 < l.Id) && zcc l.Item && znr.right ⟨l.From, l.zrx⟩ && decide (l.From < l.zrx) && decide (0 < l.Qty) && decide (l.Qty <= 1073741824)
def zj0 (u : Use) : Bool := decide (0 <= u.Want) && decide (1 <= u.Lot) && decide (1 <= u.Qty)
def ze6.Spec (C : CSem) (N : zN) : Prop := ∀ (l : Lot) (h : za) (Q : zQ), Q (.bool (zgv l)) h -> C (N 52) [.agg l.cs] h Q
theorem ze6.spec (i : ze6.Imp C N) (s1 : zb9.Spec C N) (s2 : zdl.Spec C N) : ze6.Spec C N := by
 intro l h Q hq
 apply i
 simp +contextual -dsimp
 refine B.zee (fun _ _ hq => s1 _ _ _ hq) ?_
 simp +contextual -dsimp
 refine B.zee (fun _ _ hq => s2 _ _ _ _ hq) ?_
 simp +contextual -dsimp
 simp only [zgv, Bool.and_assoc] at hq
 simp only [Bool.and_assoc]
 exact zk hq
def zd9.Spec (C : CSem) (N : zN) : Prop := ∀ (l : Lot) (h : za) (Q : zQ), Q (.bool (zgv l)) h -> C (N 60) [.agg l.cs] h Q
theorem zd9.spec (i : zd9.Imp C N) (s1 : zca.Spec C N) : zd9.Spec C N := by
 intro l h Q hq
 apply i
 simp +contextual -dsimp
 refine B.zee (fun _ _ hq => s1 _ _ _ hq) ?_
 simp +contextual -dsimp
 refine zk ?_
 have : ∀ a b : Bool, a = b -> Q (.bool b) h -> Q (.bool a) h := fun a b e => by rw [e]; exact id
 refine this _ _ ?_ hq
 rw [Bool.eq_iff_iff]
 cases hc : zcc l.Item <;> simp [zgv, znr.right, hc]
 omega
def be (n : Int) : Nat -> List UInt8
 | 0 => []
 | k + 1 => byt (n.fdiv (2 ^ (8 * k))) :: be n k
@[simp] theorem zfh (n : Int) : ∀ k, (be n k).length = k
 | 0 => rfl
 | k + 1 => by simp [be, zfh n k]
def ze8.Spec (C : CSem) (N : zN) : Prop := ∀ (h0 h : za) (x : AVal) (D : List UInt8) (n : Int) (k : Nat) (Q : zQ), Owns h0 h [.sl 1 x (D.map bc) []] -> k <= 8 -> D.length <= 100000000 ->
 (∀ x' h', Owns h0 h' [.sl 1 x' ((D ++ be n k).map bc) []] -> Q x' h') -> C (N 50) [x, .int .i64 n, .int .i64 (k : Int)] h Q
theorem ze8.spec (i : ze8.Imp C N) : ze8.Spec C N := by
 intro h0 h x D n k Q ho hk hD hq
 apply i
 have e0 : IntKind.i64.wrap ((k : Int) - 1) = (k : Int) - 1 := wrap_i64 (by omega) (by omega)
 simp +contextual -dsimp [e0]
 refine zd.intro (fun t vs hh => ∃ (x : AVal) (pre : List UInt8), t <= k ∧ vs = [x, .int .i64 ((t : Int) - 1)] ∧ pre ++ be n t = be n k ∧ Owns h0 hh [.sl 1 x ((D ++ pre).map bc) []]) k ?_ ⟨x, [], Nat.le_refl _, rfl, rfl, by simpa using ho⟩
 rintro Y t vs hh ⟨x, pre, ht, rfl, he, ho⟩ hY
 simp +contextual -dsimp
 have hpl := congrArg List.length he
 simp only [List.length_append, zfh] at hpl
 refine B.ze (fun hb => ?_) (fun hb => ?_) <;> simp at hb
 ·obtain ⟨t, rfl⟩ : ∃ u, t = u + 1 := ⟨t - 1, by omega⟩
  have e1 : ((t + 1 : Nat) : Int) - 1 = (t : Int) := by omega
  have e2 : IntKind.i64.wrap (8 * (t : Int)) = 8 * (t : Int) := wrap_i64 (by omega) (by omega)
  have e3 : V.bin .shr (.int .i64 n) (.int .i64 (8 * (t : Int))) = some (.int .i64 (n.fdiv (2 ^ (8 * t)))) := by
   rw [zvo (by omega) (by simp [IntKind.bits]; omega)]
   congr 4
  have e4 : IntKind.i64.wrap ((t : Int) - 1) = (t : Int) - 1 := wrap_i64 (by omega) (by omega)
  rw [e1]
  simp +contextual -dsimp [e2, e3, zld]
  refine ho.push 0 rfl rfl (by omega) (by simp; omega) (by simp [maxLen]; omega) fun x' h' ho' _ => ?_
  simp +contextual -dsimp [e4]
  refine hY t _ _ (by omega) ⟨x', pre ++ [byt (n.fdiv (2 ^ (8 * t)))], by omega, rfl, ?_, ?_⟩
  ·rw [<- he, be, List.append_assoc]; rfl
  ·rw [<- List.append_assoc, List.map_append]; exact ho'
 ·have : t = 0 := by omega
  subst this
  rw [be, List.append_nil] at he
  subst he
  exact zk (hq _ _ ho)
theorem zt0 (n : Int) : ∀ t : Nat, t < 8 -> ((n % 18446744073709551616).fdiv (2 ^ (8 * t))) % 256 = (n.fdiv (2 ^ (8 * t))) % 256
 | 0, _ => by rw [Int.fdiv_eq_ediv_of_nonneg _ (by omega), Int.fdiv_eq_ediv_of_nonneg _ (by omega)]; omega
 | 1, _ => by rw [Int.fdiv_eq_ediv_of_nonneg _ (by omega), Int.fdiv_eq_ediv_of_nonneg _ (by omega)]; omega
 | 2, _ => by rw [Int.fdiv_eq_ediv_of_nonneg _ (by omega), Int.fdiv_eq_ediv_of_nonneg _ (by omega)]; omega
 | 3, _ => by rw [Int.fdiv_eq_ediv_of_nonneg _ (by omega), Int.fdiv_eq_ediv_of_nonneg _ (by omega)]; omega
 | 4, _ => by rw [Int.fdiv_eq_ediv_of_nonneg _ (by omega), Int.fdiv_eq_ediv_of_nonneg _ (by omega)]; omega
 | 5, _ => by rw [Int.fdiv_eq_ediv_of_nonneg _ (by omega), Int.fdiv_eq_ediv_of_nonneg _ (by omega)]; omega
 | 6, _ => by rw [Int.fdiv_eq_ediv_of_nonneg _ (by omega), Int.fdiv_eq_ediv_of_nonneg _ (by omega)]; omega
 | 7, _ => by rw [Int.fdiv_eq_ediv_of_nonneg _ (by omega), Int.fdiv_eq_ediv_of_nonneg _ (by omega)]; omega
 | t + 8, h => by omega
def zce.Spec (C : CSem) (N : zN) : Prop := ∀ (n : Int) (k : Nat) (h : za) (Q : zQ), k <= 8 ->
 (∀ x' h', Owns h h' [.sl 1 x' ((be n k).map bc) []] -> Q x' h') -> C (N 58) [.int .i64 n, .int .i64 (k : Int)] h Q
theorem zce.spec (i : zce.Imp C N) : zce.Spec C N := by
 intro n k h Q hk hq
 apply i
 have e0 : IntKind.i64.wrap ((k : Int) - 1) = (k : Int) - 1 := wrap_i64 (by omega) (by omega)
 simp +contextual -dsimp [e0]
 refine zd.intro (fun t vs hh => ∃ (x : AVal) (pre : List UInt8), t <= k ∧ vs = [x, .int .i64 ((t : Int) - 1)] ∧ pre ++ be n t = be n k ∧ Owns h hh [.sl 1 x (pre.map bc) []]) k ?_ ⟨.nils, [], Nat.le_refl _, rfl, rfl, (Owns.start h).nils 1⟩
 rintro Y t vs hh ⟨x, pre, ht, rfl, he, ho⟩ hY
 simp +contextual -dsimp
 have hpl := congrArg List.length he
 simp only [List.length_append, zfh] at hpl
 refine B.ze (fun hb => ?_) (fun hb => ?_) <;> simp at hb
 ·obtain ⟨t, rfl⟩ : ∃ u, t = u + 1 := ⟨t - 1, by omega⟩
  have e1 : ((t + 1 : Nat) : Int) - 1 = (t : Int) := by omega
  have e2 : IntKind.i64.wrap (8 * (t : Int)) = 8 * (t : Int) := wrap_i64 (by omega) (by omega)
  have e5 : IntKind.u64.wrap (8 * (t : Int)) = 8 * (t : Int) := by rw [wrap_u64]; omega
  have e3 : V.bin .shr (.int .u64 (IntKind.u64.wrap n)) (.int .u64 (8 * (t : Int))) = some (.int .u64 ((n % 18446744073709551616).fdiv (2 ^ (8 * t)))) := by
   rw [wrap_u64, zvo (by omega) (by simp [IntKind.bits]; omega)]
   congr 4
  have e6 : byt ((n % 18446744073709551616).fdiv (2 ^ (8 * t))) = byt (n.fdiv (2 ^ (8 * t))) := zru (zt0 n t (by omega))
  have e4 : IntKind.i64.wrap ((t : Int) - 1) = (t : Int) - 1 := wrap_i64 (by omega) (by omega)
  rw [e1]
  simp +contextual -dsimp [e2, e5, e3, zld, e6]
  refine ho.push 0 rfl rfl (by omega) (by simp; omega) (by simp [maxLen]; omega) fun x' h' ho' _ => ?_
  simp +contextual -dsimp [e4]
  refine hY t _ _ (by omega) ⟨x', pre ++ [byt (n.fdiv (2 ^ (8 * t)))], by omega, rfl, ?_, ?_⟩
  ·rw [<- he, be, List.append_assoc]; rfl
  ·rw [List.map_append]; exact ho'
 ·have : t = 0 := by omega
  subst this
  rw [be, List.append_nil] at he
  subst he
  exact zk (hq _ _ ho)
theorem zrv {f : Nat} {args : List AVal} {h0 h : za} {out : AVal} {D M : List UInt8} {K : zQ} (s : ∀ Q : zQ, (∀ x' h', Owns h h' [.sl 1 x' (M.map bc) []] -> Q x' h') -> C f args h Q)
  (ho : Owns h0 h [.sl 1 out (D.map bc) []]) (hl : D.length + M.length <= 100000000) (hK : ∀ out' h', Owns h0 h' [.sl 1 out' ((D ++ M).map bc) []] -> K out' h') : C f args h (fun v h => B.appW h 1 1 out v K) := by
 refine s _ fun x' h' hn => ?_
 refine (ho.join hn).appW 0 rfl (hn.slAt 0 rfl) (by omega) (by simp; omega) (by simp [maxLen]; omega) fun out' h2 ho2 _ => hK out' h2 ?_
 rw [List.map_append]
 exact ho2.sub (by simp)
theorem byteLit {h0 h : za} {out : AVal} {D : List UInt8} {b : UInt8} {K : zQ} (ho : Owns h0 h [.sl 1 out (D.map bc) []]) (hl : D.length <= 100000000) (hK : ∀ out' h', Owns h0 h' [.sl 1 out' ((D ++ [b]).map bc) []] -> K out' h') :
  B.newO h (some [.int .u8 (b.toNat : Int)]) fun i h => B.appW h 1 1 out (.sl i 0 0 1 1 1) K := by
 refine ho.push 0 rfl rfl (by omega) (by simp; omega) (by simp [maxLen]; omega) fun x' h' ho' _ => hK x' h' ?_
 rw [List.map_append]; exact ho'
def zdk.bare (t : zdk) : Bool := decide (t.Id = 0) && decide (t.Day = 0) && decide (t.Code = []) && decide (t.State = 0) && decide (t.Lots = []) && decide (t.Uses = [])
def zdk.head (t : zdk) : Bool := !(decide (t.Id < 0) || decide (t.Day < -1) || decide (4000 < t.Day) || !decide (t.Code = []) && !zcc t.Code || decide (3 < (t.State.toNat : Int)) || decide (300 < (t.Lots.length : Int)) || decide (2000 < (t.Uses.length : Int)))
def zdk.full (t : zdk) : Bool := t.head && t.Lots.all zgv && t.Uses.all zj0
def zem (t : zdk) : Bool := decide (0 <= t.Err) && decide (t.Err <= 999) && if 0 < t.Err then t.bare else t.full
theorem u8_zero (b : UInt8) : decide ((b.toNat : Int) = 0) = decide (b = 0) := u8_eq b 0
theorem zt2 {T : Type} {p : T -> Bool} {L : List T} {k : Nat} {w : T} (h : (L.take k).all p = true) (hw : L[k]? = some w) (hp : p w = true) : (L.take (k + 1)).all p = true := by
 rw [take_succ hw, List.all_append, h]; simp [hp]
theorem all_bad {T : Type} {p : T -> Bool} {L : List T} {k : Nat} {w : T} (hw : L[k]? = some w) (hp : p w = false) : L.all p = false := by
 rw [<- Bool.not_eq_true, List.all_eq_true]
 intro h
 rw [h w (List.mem_of_getElem? hw)] at hp; cases hp
def zbw.Spec (C : CSem) (N : zN) : Prop := ∀ (t : zdk) (x y : AVal) (h : za) (Q : zQ), zin h t x y -> t.Lots.length <= 100000000 -> t.Uses.length <= 100000000 -> Q (.bool (zem t)) h -> C (N 29) [.agg (t.cs x y)] h Q
theorem zbw.spec (i : zbw.Imp C N) (s1 : ze6.Spec C N) (s2 : zb9.Spec C N) : zbw.Spec C N := by
 intro t x y h Q ht hl1 hl2 hq
 obtain ⟨⟨R, hx⟩, ⟨S, hy⟩⟩ := ht
 apply i
 have hlx := hx.zj
 have hly := hy.zj
 rw [List.length_map] at hlx hly
 have hw : IntKind.i64.wrap ((t.Lots.length : Int) + t.Uses.length) = (t.Lots.length : Int) + t.Uses.length := wrap_i64 (by omega) (by omega)
 simp +contextual -dsimp [hlx, hly, hw]
 refine B.ze (fun h1 => ?_) (fun h1 => ?_)
 ·have : zem t = false := by simp at h1; simp [zem]; omega
  rw [this] at hq
  exact zk hq
 ·simp +contextual -dsimp
  refine B.ze (fun h2 => ?_) (fun h2 => ?_)
  ·have : ∀ a : Bool, zem t = a -> dn Q (.bool a) h := fun a e => by rw [<- e]; exact zk hq
   refine this _ ?_
   simp at h1 h2
   simp only [zem, h2, if_true, zdk.bare, decide_eq_true h1.1, decide_eq_true h1.2, Bool.true_and]
   rw [Bool.eq_iff_iff]
   simp [<- u8_zero]
   have e : (t.Lots = [] ∧ t.Uses = []) ↔ ((t.Lots.length : Int) + t.Uses.length = 0) := by rw [<- List.length_eq_zero_iff, <- List.length_eq_zero_iff]; omega
   rw [and_assoc, e]
  ·simp +contextual -dsimp
   refine B.zee (fun _ _ hq => s2 _ _ _ hq) ?_
   simp +contextual -dsimp [hlx, hly]
   have hfull : zem t = t.full := by
    simp at h1 h2
    simp only [zem]
    rw [if_neg (by omega), decide_eq_true h1.1, decide_eq_true h1.2]; rfl
   rw [hfull] at hq
   refine B.ze (fun h3 => ?_) (fun h3 => ?_)
   ·rw [show t.full = false by simp only [zdk.full, zdk.head, h3]; rfl] at hq
    exact zk hq
   ·have hhead : t.head = true := by simp only [zdk.head, h3]; rfl
    simp +contextual -dsimp [hlx, hly]
    refine zd.intro (fun n vs hh => ∃ k : Nat, k + n = t.Lots.length ∧ vs = [.int .i64 k] ∧ hh = h ∧ (t.Lots.take k).all zgv = true) t.Lots.length ?_ ⟨0, by simp, by simp, rfl, by simp⟩
    rintro Y n vs hh ⟨k, hn, rfl, rfl, hall⟩ hY
    simp +contextual -dsimp
    refine B.ze (fun h4 => ?_) (fun h4 => ?_) <;> simp at h4
    ·obtain ⟨w, hw⟩ := zdz h4
     have hk : k < (t.Lots.map Lot.cs).length := by simpa using h4
     simp +contextual -dsimp [hx.idxN hk, hx.elem (get_map hw)]
     refine s1 w _ _ ?_
     simp +contextual -dsimp
     refine B.ze (fun h5 => ?_) (fun h5 => ?_)
     ·rw [show t.full = false by simp only [zdk.full, all_bad hw (show zgv w = false by simpa using h5), Bool.and_false, Bool.false_and]] at hq
      exact zk hq
     ·simp +contextual -dsimp [zf8 (n := k) (by omega)]
      exact hY (n - 1) _ _ (by omega) ⟨k + 1, by omega, by simp, rfl, zt2 hall hw (by simpa using h5)⟩
    ·have hkl : k = t.Lots.length := by omega
     subst hkl
     rw [List.take_length] at hall
     simp +contextual -dsimp [hlx, hly]
     refine zd.intro (fun n vs h2 => ∃ k : Nat, k + n = t.Uses.length ∧ vs = [.int .i64 k] ∧ h2 = hh ∧ (t.Uses.take k).all zj0 = true) t.Uses.length ?_ ⟨0, by simp, by simp, rfl, by simp⟩
     rintro Z n vs h2 ⟨k, hn, rfl, rfl, hall2⟩ hZ
     simp +contextual -dsimp
     refine B.ze (fun h4 => ?_) (fun h4 => ?_) <;> simp at h4
     ·obtain ⟨w, hw⟩ := zdz h4
      have hk : k < (t.Uses.map Use.cs).length := by simpa using h4
      simp +contextual -dsimp [hy.idxN hk, hy.elem (get_map hw)]
      refine B.ze (fun h5 => ?_) (fun h5 => ?_)
      ·rw [show t.full = false by simp only [zdk.full, all_bad hw (show zj0 w = false by simp at h5; simp [zj0]; omega), Bool.and_false]] at hq
       exact zk hq
      ·simp +contextual -dsimp [zf8 (n := k) (by omega)]
       exact hZ (n - 1) _ _ (by omega) ⟨k + 1, by omega, by simp, rfl, zt2 hall2 hw (by simp at h5; simp [zj0]; omega)⟩
     ·have hkl : k = t.Uses.length := by omega
      subst hkl
      rw [List.take_length] at hall2
      rw [show t.full = true by simp only [zdk.full, hhead, hall, hall2]; rfl] at hq
      exact zk hq
def zbk.Spec (C : CSem) (N : zN) : Prop := ∀ (t : zdk) (x y : AVal) (h : za) (Q : zQ), zin h t x y -> t.Lots.length <= 100000000 -> t.Uses.length <= 100000000 -> Q (.bool (zem t)) h -> C (N 33) [.agg (t.cs x y)] h Q
theorem zbk.spec (i : zbk.Imp C N) (s1 : zd9.Spec C N) (s2 : zca.Spec C N) : zbk.Spec C N := by
 intro t x y h Q ht hl1 hl2 hq
 obtain ⟨⟨R, hx⟩, ⟨S, hy⟩⟩ := ht
 apply i
 have hlx := hx.zj
 have hly := hy.zj
 rw [List.length_map] at hlx hly
 have hw : IntKind.i64.wrap ((t.Lots.length : Int) + t.Uses.length) = (t.Lots.length : Int) + t.Uses.length := wrap_i64 (by omega) (by omega)
 simp +contextual -dsimp [hlx, hly, hw]
 refine B.ze (fun h1 => ?_) (fun h1 => ?_)
 ·have : zem t = false := by simp at h1; simp [zem]; omega
  rw [this] at hq
  exact zk hq
 ·simp +contextual -dsimp [hlx, hly, hw]
  refine B.ze (fun h2 => ?_) (fun h2 => ?_)
  ·simp +contextual -dsimp [hlx, hly, hw]
   have : ∀ a : Bool, zem t = a -> dn Q (.bool a) h := fun a e => by rw [<- e]; exact zk hq
   refine this _ ?_
   simp at h1 h2
   simp only [zem, show 0 < t.Err by omega, if_true, zdk.bare, decide_eq_true h1.1, decide_eq_true h1.2, Bool.true_and]
   rw [Bool.eq_iff_iff]
   simp [<- u8_zero]
   have e : (t.Lots = [] ∧ t.Uses = []) ↔ ((t.Lots.length : Int) + t.Uses.length = 0) := by rw [<- List.length_eq_zero_iff, <- List.length_eq_zero_iff]; omega
   rw [and_assoc, e]
  ·simp +contextual -dsimp [hlx, hly]
   refine B.zee (fun _ _ hq => s2 _ _ _ hq) ?_
   simp +contextual -dsimp [hlx, hly]
   have hfull : zem t = t.full := by
    simp at h1 h2
    simp only [zem]
    rw [if_neg (by omega), decide_eq_true h1.1, decide_eq_true h1.2]; rfl
   rw [hfull] at hq
   refine B.ze (fun h3 => ?_) (fun h3 => ?_)
   ·rw [show t.full = false by simp only [zdk.full, zdk.head, h3]; rfl] at hq
    exact zk hq
   ·have hhead : t.head = true := by simp only [zdk.head, h3]; rfl
    refine zd.intro (fun n vs hh => ∃ k : Nat, k + n = t.Lots.length ∧ vs = [.int .i64 k] ∧ hh = h ∧ (t.Lots.take k).all zgv = true) t.Lots.length ?_ ⟨0, by simp, by simp, rfl, by simp⟩
    rintro Y n vs hh ⟨k, hn, rfl, rfl, hall⟩ hY
    simp +contextual -dsimp [hlx, hly]
    refine B.ze (fun h4 => ?_) (fun h4 => ?_) <;> simp at h4
    ·obtain ⟨w, hw⟩ := zdz h4
     have hk : k < (t.Lots.map Lot.cs).length := by simpa using h4
     simp +contextual -dsimp [hx.idxN hk, hx.elem (get_map hw)]
     refine s1 w _ _ ?_
     simp +contextual -dsimp
     refine B.ze (fun h5 => ?_) (fun h5 => ?_)
     ·rw [show t.full = false by simp only [zdk.full, all_bad hw (show zgv w = false by simpa using h5), Bool.and_false, Bool.false_and]] at hq
      exact zk hq
     ·simp +contextual -dsimp [zf8 (n := k) (by omega)]
      exact hY (n - 1) _ _ (by omega) ⟨k + 1, by omega, by simp, rfl, zt2 hall hw (by simpa using h5)⟩
    ·have hkl : k = t.Lots.length := by omega
     subst hkl
     rw [List.take_length] at hall
     refine zd.intro (fun n vs h2 => ∃ k : Nat, k + n = t.Uses.length ∧ vs = [.int .i64 k] ∧ h2 = hh ∧ (t.Uses.take k).all zj0 = true) t.Uses.length ?_ ⟨0, by simp, by simp, rfl, by simp⟩
     rintro Z n vs h2 ⟨k, hn, rfl, rfl, hall2⟩ hZ
     simp +contextual -dsimp [hlx, hly]
     refine B.ze (fun h4 => ?_) (fun h4 => ?_) <;> simp at h4
     ·obtain ⟨w, hw⟩ := zdz h4
      have hk : k < (t.Uses.map Use.cs).length := by simpa using h4
      simp +contextual -dsimp [hy.idxN hk, hy.zvf hk, hy.ldv (get_map hw)]
      refine B.ze (fun h5 => ?_) (fun h5 => ?_)
      ·rw [show t.full = false by simp only [zdk.full, all_bad hw (show zj0 w = false by simp at h5; simp [zj0]; omega), Bool.and_false]] at hq
       exact zk hq
      ·simp +contextual -dsimp [zf8 (n := k) (by omega)]
       exact hZ (n - 1) _ _ (by omega) ⟨k + 1, by omega, by simp, rfl, zt2 hall2 hw (by simp at h5; simp [zj0]; omega)⟩
     ·have hkl : k = t.Uses.length := by omega
      subst hkl
      rw [List.take_length] at hall2
      rw [show t.full = true by simp only [zdk.full, hhead, hall, hall2]; rfl] at hq
      exact zk hq
end Go.Ab
namespace Go.Ab
variable {C : CSem} {N : zN}
def zi1 (l : Lot) : List UInt8 := be l.Id 8 ++ zeo l.Item ++ be l.From 2 ++ be l.zrx 2 ++ be l.Qty 8 ++ be (bif l.znt then 1 else 0) 1
def zj1 (u : Use) : List UInt8 := be u.Want 8 ++ be u.Lot 8 ++ be u.Qty 8
def zka (t : zdk) : List UInt8 := be t.Err 2 ++ be t.Id 8 ++ be (t.Day + 1) 2 ++ zeo t.Code ++ [t.State] ++ be t.Lots.length 2 ++ t.Lots.flatMap zi1 ++ be t.Uses.length 2 ++ t.Uses.flatMap zj1
def zdc (t : zdk) : List UInt8 × Int := if zem t = false then ([], 2) else if 0 < t.Err then (be t.Err 2, 0) else (zka t, 0)
theorem lotBytes_len (l : Lot) : (zi1 l).length <= 34 := by
 have := zev l.Item
 simp [zi1]; omega
theorem useBytes_len (u : Use) : (zj1 u).length = 24 := by simp [zj1]
theorem zij {T : Type} {f : T -> List UInt8} {m : Nat} (hf : ∀ x, (f x).length <= m) : ∀ L : List T, (L.flatMap f).length <= L.length * m
 | [] => by simp
 | a :: r => by
  have := zij hf r
  have := hf a
  simp only [List.flatMap_cons, List.length_append, List.length_cons, Nat.add_mul, Nat.one_mul]; omega
theorem lots_len (L : List Lot) (k : Nat) (h : L.length <= 300) : ((L.take k).flatMap zi1).length <= 10200 := by
 have h1 := zij lotBytes_len (L.take k)
 have h2 : (L.take k).length <= 300 := by simp; omega
 have := Nat.mul_le_mul_right 34 h2
 omega
theorem uses_len (L : List Use) (k : Nat) (h : L.length <= 2000) : ((L.take k).flatMap zj1).length <= 48000 := by
 have h1 := zij (fun u => Nat.le_of_eq (useBytes_len u)) (L.take k)
 have h2 : (L.take k).length <= 2000 := by simp; omega
 have := Nat.mul_le_mul_right 24 h2
 omega
theorem zrm {T : Type} {f : T -> List UInt8} {L : List T} {k : Nat} {w : T} (hw : L[k]? = some w) : (L.take (k + 1)).flatMap f = (L.take k).flatMap f ++ f w := by
 rw [take_succ hw, List.flatMap_append]; simp
theorem zis {t : zdk} (h : zem t = true) : 0 <= t.Err ∧ t.Err <= 999 ∧ (¬ 0 < t.Err -> t.head = true ∧ t.Lots.length <= 300 ∧ t.Uses.length <= 2000 ∧ -1 <= t.Day ∧ t.Day <= 4000) := by
 simp only [zem, Bool.and_eq_true, decide_eq_true_eq] at h
 refine ⟨h.1.1, h.1.2, fun h2 => ?_⟩
 have h3 := h.2
 rw [if_neg h2] at h3
 simp only [zdk.full, Bool.and_eq_true] at h3
 have h4 := h3.1.1
 refine ⟨h4, ?_⟩
 simp [zdk.head] at h4
 omega
def zb2.Spec (C : CSem) (N : zN) : Prop := ∀ (t : zdk) (x y : AVal) (h : za) (Q : zQ), zin h t x y -> t.Lots.length <= 100000000 -> t.Uses.length <= 100000000 ->
 (∀ x' h', Owns h h' [.sl 1 x' ((zdc t).1.map bc) []] -> Q (.tup [x', .int .i64 (zdc t).2]) h') -> C (N 28) [.agg (t.cs x y)] h Q
theorem zb2.spec (i : zb2.Imp C N) (s1 : zbw.Spec C N) (s2 : ze8.Spec C N) (s3 : zfg.Spec C N) : zb2.Spec C N := by
 intro t x y h Q ht hl1 hl2 hq
 apply i
 simp +contextual -dsimp
 refine s1 t x y _ _ ht hl1 hl2 ?_
 simp +contextual -dsimp
 refine B.ze (fun hr => ?_) (fun hr => ?_) <;> simp at hr
 ·rw [show zdc t = ([], 2) by simp [zdc, hr]] at hq
  exact zk (hq _ _ ((Owns.start h).nils 1))
 ·obtain ⟨f1, f2, f3⟩ := zis hr
  have hc := zev t.Code
  simp +contextual -dsimp
  refine s2 h h _ [] t.Err 2 _ ((Owns.start h).nils 1) (by omega) (by simp) fun o1 h1 ho1 => ?_
  simp +contextual -dsimp
  refine B.ze (fun he => ?_) (fun he => ?_) <;> simp at he
  ·rw [show zdc t = (be t.Err 2, 0) by simp [zdc, hr, he]] at hq
   exact zk (hq _ _ ho1)
  ·obtain ⟨f4, f5, f6, f7, f8⟩ := f3 (by omega)
   rw [show zdc t = (zka t, 0) by simp [zdc, hr]; omega] at hq
   have ed : IntKind.i64.wrap (t.Day + 1) = t.Day + 1 := wrap_i64 (by omega) (by omega)
   simp +contextual -dsimp
   refine s2 h h1 _ _ t.Id 8 _ ho1 (by omega) (by simp) fun o2 h2 ho2 => ?_
   simp +contextual -dsimp [ed]
   refine s2 h h2 _ _ (t.Day + 1) 2 _ ho2 (by omega) (by simp) fun o3 h3 ho3 => ?_
   simp +contextual -dsimp
   refine zrv (s3 t.Code h3) ho3 (by simp only [List.length_append, zfh, List.length_cons, List.length_nil]; omega) fun o4 h4 ho4 => ?_
   simp +contextual -dsimp
   refine byteLit ho4 (by simp only [List.length_append, zfh, List.length_cons, List.length_nil]; omega) fun o5 h5 ho5 => ?_
   obtain ⟨⟨R, hx⟩, ⟨S, hy⟩⟩ := ht.mono ho5.le
   have hlx := hx.zj
   rw [List.length_map] at hlx
   simp +contextual -dsimp [hlx]
   refine s2 h h5 _ _ t.Lots.length 2 _ ho5 (by omega) (by simp only [List.length_append, zfh, List.length_cons, List.length_nil]; omega) fun o6 h6 ho6 => ?_
   simp +contextual -dsimp [hlx]
   simp only [List.nil_append, List.append_assoc] at ho6
   refine zd.intro (fun n vs hh => ∃ (k : Nat) (o : AVal), k + n = t.Lots.length ∧ vs = [o, .int .i64 k] ∧ Owns h hh [.sl 1 o ((be t.Err 2 ++ (be t.Id 8 ++ (be (t.Day + 1) 2 ++ (zeo t.Code ++ ([t.State] ++ (be t.Lots.length 2 ++ (t.Lots.take k).flatMap zi1)))))).map bc) []]) t.Lots.length ?_ ⟨0, o6, by simp, by simp, by simpa using ho6⟩
   rintro Y n vs hh ⟨k, o, hn, rfl, ho⟩ hY
   obtain ⟨⟨R, hx⟩, ⟨S, hy⟩⟩ := ht.mono ho.le
   have hlx := hx.zj
   have hly := hy.zj
   rw [List.length_map] at hlx hly
   have hll := lots_len t.Lots k f5
   simp +contextual -dsimp
   refine B.ze (fun hb => ?_) (fun hb => ?_) <;> simp at hb
   ·obtain ⟨w, hw⟩ := zdz hb
    have hk : k < (t.Lots.map Lot.cs).length := by simpa using hb
    have hcw := zev w.Item
    simp +contextual -dsimp [hx.idxN hk, hx.elem (get_map hw)]
    refine s2 h hh _ _ w.Id 8 _ ho (by omega) (by simp only [List.length_append, zfh, List.length_cons, List.length_nil]; omega) fun o1 h1 ho1 => ?_
    simp +contextual -dsimp
    refine zrv (s3 w.Item h1) ho1 (by simp only [List.length_append, zfh, List.length_cons, List.length_nil]; omega) fun o2 h2 ho2 => ?_
    simp +contextual -dsimp
    refine s2 h h2 _ _ w.From 2 _ ho2 (by omega) (by simp only [List.length_append, zfh, List.length_cons, List.length_nil]; omega) fun o3 h3 ho3 => ?_
    simp +contextual -dsimp
    refine s2 h h3 _ _ w.zrx 2 _ ho3 (by omega) (by simp only [List.length_append, zfh, List.length_cons, List.length_nil]; omega) fun o4 h4 ho4 => ?_
    simp +contextual -dsimp
    refine s2 h h4 _ _ w.Qty 8 _ ho4 (by omega) (by simp only [List.length_append, zfh, List.length_cons, List.length_nil]; omega) fun o5 h5 ho5 => ?_
    simp +contextual -dsimp
    have fin : ∀ v : Int, v = (bif w.znt then 1 else 0) -> C (N 50) [o5, .int .i64 v, .int .i64 1] h5 fun v78 h => B.pv (V.bin .add (.int .i64 (k : Int)) (.int .i64 1)) fun v79 => Y [v78, v79] h := fun v hv => by
     refine s2 h h5 _ _ v 1 _ ho5 (by omega) (by simp only [List.length_append, zfh, List.length_cons, List.length_nil]; omega) fun o6 h6 ho6 => ?_
     simp +contextual -dsimp [zf8 (n := k) (by omega)]
     refine hY (n - 1) _ _ (by omega) ⟨k + 1, o6, by omega, by simp, ?_⟩
     rw [zrm hw]
     simp only [zi1, <- hv, List.append_assoc] at ho6 ⊢
     exact ho6
    refine B.ze (fun ha => ?_) (fun ha => ?_)
    ·exact fin 1 (by rw [ha]; rfl)
    ·exact fin 0 (by rw [ha]; rfl)
   ·have hkl : k = t.Lots.length := by omega
    subst hkl
    rw [List.take_length] at ho hll
    simp +contextual -dsimp [hly]
    refine s2 h hh _ _ t.Uses.length 2 _ ho (by omega) (by simp only [List.length_append, zfh, List.length_cons, List.length_nil]; omega) fun o1 h1 ho1 => ?_
    simp +contextual -dsimp [hly]
    simp only [List.append_assoc] at ho1
    refine zd.intro (fun n vs hh => ∃ (k : Nat) (o : AVal), k + n = t.Uses.length ∧ vs = [o, .int .i64 k] ∧ Owns h hh [.sl 1 o ((be t.Err 2 ++ (be t.Id 8 ++ (be (t.Day + 1) 2 ++ (zeo t.Code ++ ([t.State] ++ (be t.Lots.length 2 ++ (t.Lots.flatMap zi1 ++ (be t.Uses.length 2 ++ (t.Uses.take k).flatMap zj1)))))))).map bc) []]) t.Uses.length ?_ ⟨0, o1, by simp, by simp, by simpa using ho1⟩
    rintro Z n vs h2 ⟨k, o, hn, rfl, ho⟩ hZ
    obtain ⟨⟨R, hx⟩, ⟨S, hy⟩⟩ := ht.mono ho.le
    have hul := uses_len t.Uses k f6
    simp +contextual -dsimp
    refine B.ze (fun hb => ?_) (fun hb => ?_) <;> simp at hb
    ·obtain ⟨w, hw⟩ := zdz hb
     have hk : k < (t.Uses.map Use.cs).length := by simpa using hb
     simp +contextual -dsimp [hy.idxN hk, hy.elem (get_map hw)]
     refine s2 h h2 _ _ w.Want 8 _ ho (by omega) (by simp only [List.length_append, zfh, List.length_cons, List.length_nil]; omega) fun o1 h1 ho1 => ?_
     simp +contextual -dsimp
     refine s2 h h1 _ _ w.Lot 8 _ ho1 (by omega) (by simp only [List.length_append, zfh, List.length_cons, List.length_nil]; omega) fun o2 h2 ho2 => ?_
     simp +contextual -dsimp
     refine s2 h h2 _ _ w.Qty 8 _ ho2 (by omega) (by simp only [List.length_append, zfh, List.length_cons, List.length_nil]; omega) fun o3 h3 ho3 => ?_
     simp +contextual -dsimp [zf8 (n := k) (by omega)]
     refine hZ (n - 1) _ _ (by omega) ⟨k + 1, o3, by omega, by simp, ?_⟩
     rw [zrm hw]
     simp only [zj1, List.append_assoc] at ho3 ⊢
     exact ho3
    ·have hkl : k = t.Uses.length := by omega
     subst hkl
     rw [List.take_length] at ho
     refine zk (hq _ _ ?_)
     simp only [zka, List.append_assoc]
     exact ho
def zbn.Spec (C : CSem) (N : zN) : Prop := ∀ (t : zdk) (x y : AVal) (h : za) (Q : zQ), zin h t x y -> t.Lots.length <= 100000000 -> t.Uses.length <= 100000000 ->
 (∀ x' h', Owns h h' [.sl 1 x' ((zdc t).1.map bc) []] -> Q (.tup [x', .int .i64 (zdc t).2]) h') -> C (N 32) [.agg (t.cs x y)] h Q
theorem zm5 (s2 : zce.Spec C N) {h0 h : za} {out : AVal} {D : List UInt8} {n : Int} {k : Nat} {K : zQ} (ho : Owns h0 h [.sl 1 out (D.map bc) []]) (hk : k <= 8) (hl : D.length <= 10000000)
  (hK : ∀ out' h', Owns h0 h' [.sl 1 out' ((D ++ be n k).map bc) []] -> K out' h') : C (N 58) [.int .i64 n, .int .i64 (k : Int)] h (fun v h => B.appW h 1 1 out v K) :=
 zrv (fun Q hq => s2 n k h Q hk hq) ho (by simp only [List.length_append, zfh, List.length_cons, List.length_nil]; omega) hK
theorem hereByte (b : Bool) : be (bif b then 1 else 0) 1 = [bif b then 1 else 0] := by cases b <;> rfl
theorem zbn.spec (i : zbn.Imp C N) (s1 : zbk.Spec C N) (s2 : zce.Spec C N) (s3 : zfd.Spec C N) : zbn.Spec C N := by
 intro t x y h Q ht hl1 hl2 hq
 apply i
 simp +contextual -dsimp
 refine s1 t x y _ _ ht hl1 hl2 ?_
 simp +contextual -dsimp
 refine B.ze (fun hr => ?_) (fun hr => ?_) <;> simp at hr
 ·rw [show zdc t = ([], 2) by simp [zdc, hr]] at hq
  exact zk (hq _ _ ((Owns.start h).nils 1))
 ·obtain ⟨f1, f2, f3⟩ := zis hr
  have hc := zev t.Code
  simp +contextual -dsimp
  refine s2 t.Err 2 h _ (by omega) fun o1 h1 ho1 => ?_
  simp +contextual -dsimp
  refine B.ze (fun he => ?_) (fun he => ?_) <;> simp at he
  ·rw [show zdc t = (be t.Err 2, 0) by simp [zdc, hr]; omega] at hq
   exact zk (hq _ _ ho1)
  ·obtain ⟨f4, f5, f6, f7, f8⟩ := f3 (by omega)
   rw [show zdc t = (zka t, 0) by simp [zdc, hr]; omega] at hq
   have ed : IntKind.i64.wrap (t.Day + 1) = t.Day + 1 := wrap_i64 (by omega) (by omega)
   simp +contextual -dsimp
   refine zm5 s2 (k := 8) ho1 (by omega) (by simp only [List.length_append, zfh, List.length_cons, List.length_nil]; omega) fun o2 h2 ho2 => ?_
   simp +contextual -dsimp [ed]
   refine zm5 s2 (k := 2) ho2 (by omega) (by simp only [List.length_append, zfh, List.length_cons, List.length_nil]; omega) fun o3 h3 ho3 => ?_
   simp +contextual -dsimp
   refine zrv (s3 t.Code h3) ho3 (by simp only [List.length_append, zfh, List.length_cons, List.length_nil]; omega) fun o4 h4 ho4 => ?_
   simp +contextual -dsimp
   refine byteLit ho4 (by simp only [List.length_append, zfh, List.length_cons, List.length_nil]; omega) fun o5 h5 ho5 => ?_
   obtain ⟨⟨R, hx⟩, ⟨S, hy⟩⟩ := ht.mono ho5.le
   have hlx := hx.zj
   rw [List.length_map] at hlx
   simp +contextual -dsimp [hlx]
   refine zm5 s2 (k := 2) ho5 (by omega) (by simp only [List.length_append, zfh, List.length_cons, List.length_nil]; omega) fun o6 h6 ho6 => ?_
   simp only [List.append_assoc] at ho6
   refine zd.intro (fun n vs hh => ∃ (k : Nat) (o : AVal), k + n = t.Lots.length ∧ vs = [o, .int .i64 k] ∧ Owns h hh [.sl 1 o ((be t.Err 2 ++ (be t.Id 8 ++ (be (t.Day + 1) 2 ++ (zeo t.Code ++ ([t.State] ++ (be t.Lots.length 2 ++ (t.Lots.take k).flatMap zi1)))))).map bc) []]) t.Lots.length ?_ ⟨0, o6, by simp, by simp, by simpa using ho6⟩
   rintro Y n vs hh ⟨k, o, hn, rfl, ho⟩ hY
   obtain ⟨⟨R, hx⟩, ⟨S, hy⟩⟩ := ht.mono ho.le
   have hlx := hx.zj
   have hly := hy.zj
   rw [List.length_map] at hlx hly
   have hll := lots_len t.Lots k f5
   simp +contextual -dsimp [hlx]
   refine B.ze (fun hb => ?_) (fun hb => ?_) <;> simp at hb
   ·obtain ⟨w, hw⟩ := zdz hb
    have hk : k < (t.Lots.map Lot.cs).length := by simpa using hb
    have hcw := zev w.Item
    simp +contextual -dsimp [hx.idxN hk, hx.elem (get_map hw)]
    refine zm5 s2 (k := 8) ho (by omega) (by simp only [List.length_append, zfh, List.length_cons, List.length_nil]; omega) fun o1 h1 ho1 => ?_
    simp +contextual -dsimp
    refine zrv (s3 w.Item h1) ho1 (by simp only [List.length_append, zfh, List.length_cons, List.length_nil]; omega) fun o2 h2 ho2 => ?_
    simp +contextual -dsimp
    refine zm5 s2 (k := 2) ho2 (by omega) (by simp only [List.length_append, zfh, List.length_cons, List.length_nil]; omega) fun o3 h3 ho3 => ?_
    simp +contextual -dsimp
    refine zm5 s2 (k := 2) ho3 (by omega) (by simp only [List.length_append, zfh, List.length_cons, List.length_nil]; omega) fun o4 h4 ho4 => ?_
    simp +contextual -dsimp
    refine zm5 s2 (k := 8) ho4 (by omega) (by simp only [List.length_append, zfh, List.length_cons, List.length_nil]; omega) fun o5 h5 ho5 => ?_
    simp +contextual -dsimp
    have fin : ∀ v : UInt8, v = (bif w.znt then 1 else 0) -> B.newO h5 (some [.int .u8 (v.toNat : Int)]) fun i h => B.appW h 1 1 o5 (.sl i 0 0 1 1 1) fun v90 h => B.pv (V.bin .add (.int .i64 (k : Int)) (.int .i64 1)) fun v52 => Y [v90, v52] h := fun v hv => by
     refine byteLit ho5 (by simp only [List.length_append, zfh, List.length_cons, List.length_nil]; omega) fun o6 h6 ho6 => ?_
     simp +contextual -dsimp [zf8 (n := k) (by omega)]
     refine hY (n - 1) _ _ (by omega) ⟨k + 1, o6, by omega, by simp, ?_⟩
     rw [zrm hw]
     simp only [zi1, hereByte, <- hv, List.append_assoc] at ho6 ⊢
     exact ho6
    refine B.ze (fun ha => ?_) (fun ha => ?_)
    ·simp +contextual -dsimp
     exact fin 1 (by rw [ha]; rfl)
    ·simp +contextual -dsimp
     exact fin 0 (by rw [ha]; rfl)
   ·have hkl : k = t.Lots.length := by omega
    subst hkl
    rw [List.take_length] at ho hll
    simp +contextual -dsimp [hly]
    refine zm5 s2 (k := 2) ho (by omega) (by simp only [List.length_append, zfh, List.length_cons, List.length_nil]; omega) fun o1 h1 ho1 => ?_
    simp only [List.append_assoc] at ho1
    refine zd.intro (fun n vs hh => ∃ (k : Nat) (o : AVal), k + n = t.Uses.length ∧ vs = [o, .int .i64 k] ∧ Owns h hh [.sl 1 o ((be t.Err 2 ++ (be t.Id 8 ++ (be (t.Day + 1) 2 ++ (zeo t.Code ++ ([t.State] ++ (be t.Lots.length 2 ++ (t.Lots.flatMap zi1 ++ (be t.Uses.length 2 ++ (t.Uses.take k).flatMap zj1)))))))).map bc) []]) t.Uses.length ?_ ⟨0, o1, by simp, by simp, by simpa using ho1⟩
    rintro Z n vs h2 ⟨k, o, hn, rfl, ho⟩ hZ
    obtain ⟨⟨R, hx⟩, ⟨S, hy⟩⟩ := ht.mono ho.le
    have hly := hy.zj
    rw [List.length_map] at hly
    have hul := uses_len t.Uses k f6
    simp +contextual -dsimp [hly]
    refine B.ze (fun hb => ?_) (fun hb => ?_) <;> simp at hb
    ·obtain ⟨w, hw⟩ := zdz hb
     have hk : k < (t.Uses.map Use.cs).length := by simpa using hb
     simp +contextual -dsimp [hy.idxN hk, hy.zvf hk, hy.ldv (get_map hw)]
     refine zm5 s2 (k := 8) ho (by omega) (by simp only [List.length_append, zfh, List.length_cons, List.length_nil]; omega) fun o1 h1 ho1 => ?_
     obtain ⟨⟨R, hx⟩, ⟨S, hy⟩⟩ := ht.mono ho1.le
     simp +contextual -dsimp [hy.idxN hk, hy.zvf hk, hy.ldv (get_map hw)]
     refine zm5 s2 (k := 8) ho1 (by omega) (by simp only [List.length_append, zfh, List.length_cons, List.length_nil]; omega) fun o2 h2 ho2 => ?_
     obtain ⟨⟨R, hx⟩, ⟨S, hy⟩⟩ := ht.mono ho2.le
     simp +contextual -dsimp [hy.idxN hk, hy.zvf hk, hy.ldv (get_map hw)]
     refine zm5 s2 (k := 8) ho2 (by omega) (by simp only [List.length_append, zfh, List.length_cons, List.length_nil]; omega) fun o3 h3 ho3 => ?_
     simp +contextual -dsimp [zf8 (n := k) (by omega)]
     refine hZ (n - 1) _ _ (by omega) ⟨k + 1, o3, by omega, by simp, ?_⟩
     rw [zrm hw]
     simp only [zj1, List.append_assoc] at ho3 ⊢
     exact ho3
    ·have hkl : k = t.Uses.length := by omega
     subst hkl
     rw [List.take_length] at ho
     refine zk (hq _ _ ?_)
     simp only [zka, List.append_assoc]
     exact ho
end Go.Ab
namespace Go.Ab
variable {C : CSem} {N : zN}
theorem add1 {a : Nat} (h : a < 4611686018427387904) : V.bin .add (.int .i64 (a : Int)) (.int .i64 1) = some (.int .i64 ((a + 1 : Nat) : Int)) := by
 rw [V.zep, wrap_i64 (by omega) (by omega)]; simp
theorem sub1 {a : Nat} (h : 1 <= a) (ha : a < 4611686018427387904) : V.bin .sub (.int .i64 (a : Int)) (.int .i64 1) = some (.int .i64 ((a - 1 : Nat) : Int)) := by
 rw [V.zkq, wrap_i64 (by omega) (by omega)]; congr 2; omega
theorem lssN {a b : Nat} : V.bin .lss (.int .i64 (a : Int)) (.int .i64 (b : Int)) = some (.bool (decide (a < b))) := by rw [V.zmc]; congr 3; exact propext (by omega)
theorem leqN {a b : Nat} : V.bin .leq (.int .i64 (a : Int)) (.int .i64 (b : Int)) = some (.bool (decide (a <= b))) := by rw [V.bin_leq]; congr 3; exact propext (by omega)
section
variable {E : zfz} {X : Type} {cs : X -> List AVal} {v : X -> AVal} {h0 h : za} {x : AVal} {G : List X} {R : List (List AVal)}
end
section
variable {E : zfz} {T : Type} {cs : T -> List AVal} {v : T -> AVal} {c : T -> T -> Int} {h0 h : za} {x f : AVal} {R : List (List AVal)} {Q : zQ}
end
end Go.Ab
namespace Go.Ab
theorem flat_take {α : Type} {n : Nat} : ∀ {css : List (List α)}, (∀ cs ∈ css, cs.length = n) -> ∀ k : Nat, (css.take k).flatten = css.flatten.take (k * n)
 | [], _, k => by simp
 | c :: css, hl, 0 => by simp
 | c :: css, hl, k + 1 => by
  have hc : c.length = n := hl c (by simp)
  rw [List.take_succ_cons, List.flatten_cons, List.flatten_cons, flat_take (fun p hp => hl p (by simp [hp])) k, Nat.add_mul, Nat.one_mul, show k * n + n = c.length + k * n by omega, List.take_length_add_append]
theorem flat_drop {α : Type} {n : Nat} : ∀ {css : List (List α)}, (∀ cs ∈ css, cs.length = n) -> ∀ k : Nat, (css.drop k).flatten = css.flatten.drop (k * n)
 | [], _, k => by simp
 | c :: css, hl, 0 => by simp
 | c :: css, hl, k + 1 => by
  have hc : c.length = n := hl c (by simp)
  rw [List.drop_succ_cons, List.flatten_cons, flat_drop (fun p hp => hl p (by simp [hp])) k, Nat.add_mul, Nat.one_mul, show k * n + n = c.length + k * n by omega, List.drop_length_add_append]
section
variable {h h0 : za} {es : Nat} {x : AVal} {L R : List (List AVal)} {l : List Ob}
end
end Go.Ab
namespace Go.Ab
variable {C : CSem} {N : zN}
def zg6 (l : Line) : Bool :=
 decide (0 < l.Id) && zcc l.Item && decide (0 < l.Qty ∧ l.Qty <= 1073741824 ∧ 0 <= l.Asked ∧ l.Asked <= 4000 ∧ 0 <= l.Rank ∧ l.Rank <= 99 ∧ (1 : Int) <= l.State.toNat ∧ (l.State.toNat : Int) <= 3) &&
 bif decide (l.Day = -1) then decide (l.Code = []) && !decide ((l.State.toNat : Int) = 2) else decide (0 <= l.Day ∧ l.Day <= 4000) && zcc l.Code && !decide ((l.State.toNat : Int) = 3)
def zer.Spec (C : CSem) (N : zN) : Prop := ∀ (l : Line) (h : za) (Q : zQ), Q (.bool (zg6 l)) h -> C (N 179) [.agg l.cs] h Q
theorem zer.spec (i : zer.Imp C N) (s1 : zb9.Spec C N) : zer.Spec C N := by
 intro l h Q hq
 apply i
 have e : ∀ b, zg6 l = b -> dn Q (.bool b) h := fun b hb => by rw [<- hb]; exact zk hq
 simp +contextual -dsimp
 refine B.zee (fun _ _ hq => s1 _ _ _ hq) ?_
 simp +contextual -dsimp
 refine B.ze (fun h1 => ?_) (fun h1 => ?_)
 ·refine e _ ?_
  simp at h1
  unfold zg6
  cases hc : zcc l.Item
  ·simp
  ·simp [hc] at h1 ⊢; omega
 simp +contextual -dsimp
 refine B.ze (fun h2 => ?_) (fun h2 => ?_)
 ·refine e _ ?_
  simp at h2
  unfold zg6
  simp; omega
 simp +contextual -dsimp
 have e2 : ∀ b, (bif decide (l.Day = -1) then decide (l.Code = []) && !decide ((l.State.toNat : Int) = 2) else decide (0 <= l.Day ∧ l.Day <= 4000) && zcc l.Code && !decide ((l.State.toNat : Int) = 3)) = b -> dn Q (.bool b) h := fun b hb => by
  refine e _ ?_
  rw [<- hb]
  unfold zg6
  simp at h1 h2
  cases hc : zcc l.Item
  ·simp [hc] at h1
  ·simp [hc] at h1 ⊢
   intro
   omega
 refine B.ze (fun h3 => ?_) (fun h3 => ?_)
 ·simp +contextual -dsimp
  refine e2 _ ?_
  rw [h3]; simp
 ·have h3' : decide (l.Day = -1) = false := h3
  simp +contextual -dsimp
  refine B.zee (fun _ _ hq => s1 _ _ _ hq) ?_
  simp +contextual -dsimp
  refine e2 _ ?_
  rw [h3']
  simp [Bool.decide_and, Bool.and_assoc]
end Go.Ab
namespace Go.Ab
structure Sta where
 Now : Int
 zlc : Int
 zjl : Int
 zgy : List Itm
 Lots : List Lot
 zgp : List Line
 deriving DecidableEq
def zmk (most : Nat) (l : List (List UInt8)) : Bool := l.all zcc && (decide l.Nodup && decide (l.length <= most))
def qtyB (x : Itm) : Bool := x.zf2.all fun p => decide (1 <= p.Qty) && decide (p.Qty <= 1073741824)
def znf (x : Itm) : Bool := zmk 5 (x.Code :: x.zfk) && bif decide (x.zf2 = []) then decide (0 < x.Life) && decide (x.Life <= 2000) else qtyB x && (decide (x.Life = 0) && zmk 8 (partsIn x))
def zvy {T : Type} (lt : T -> T -> Bool) (x : T) : Option T -> Bool
 | some y => lt y x
 | none => true
def ordB {T : Type} (ok : T -> Bool) (lt : T -> T -> Bool) : Option T -> List T -> Bool
 | _, [] => true
 | p, x :: r => (ok x && zvy lt x p) && ordB ok lt (some x) r
def itemsB (l : List Itm) : Bool := ordB znf (fun a b => zoy a.Code b.Code) none l
def lotsB (l : List Lot) : Bool := ordB zgv (fun a b => decide (a.Id < b.Id)) none l
def linesB (l : List Line) : Bool := ordB zg6 (fun a b => decide (a.Id < b.Id)) none l
def numsB (s : Sta) : Bool := (((((decide (0 <= s.Now) && decide (s.Now <= 4000)) && decide (0 < s.zlc)) && decide (s.zlc <= 4611686018427387904)) && decide (0 < s.zjl)) && decide (s.zjl <= 4611686018427387904))
def zo5 (s : Sta) : Bool := numsB s && (itemsB s.zgy && (lotsB s.Lots && linesB s.zgp))
def zqq (x : Itm) : List UInt8 := be x.Life 2 ++ (byt x.zf2.length :: ((x.zf2.flatMap fun p => zeo p.Item ++ be p.Qty 4) ++ (byt x.zfk.length :: x.zfk.flatMap zeo)))
def lotVal (l : Lot) : List UInt8 := zeo l.Item ++ (be l.From 2 ++ (be l.zrx 2 ++ (be l.Qty 4 ++ [bif l.znt then 1 else 0])))
def lineVal (l : Line) : List UInt8 := zeo l.Item ++ (be l.Qty 4 ++ (be l.Asked 2 ++ ([byt l.Rank, l.State] ++ (be (l.Day + 1) 2 ++ zeo l.Code))))
def itemRow (x : Itm) : Row := ⟨105 :: x.Code, zqq x⟩
def zwl (l : Lot) : Row := ⟨108 :: be l.Id 8, lotVal l⟩
def zqo (l : Line) : Row := ⟨111 :: be l.Id 8, lineVal l⟩
def headRows (s : Sta) : List Row := [⟨[42, 100, 97, 121], be s.Now 2⟩, ⟨[42, 108, 105, 110, 101], be s.zjl 8⟩, ⟨[42, 108, 111, 116], be s.zlc 8⟩]
def staRows (s : Sta) : List Row := headRows s ++ (s.zgy.map itemRow ++ (s.Lots.map zwl ++ s.zgp.map zqo))
def allRows (s : Sta) : List Row := bif zo5 s then staRows s else []
variable {C : CSem}
section
variable {E : zfz} {X : Type} {cs : X -> List AVal} {v : X -> AVal} {h0 h : za} {x f : AVal} {G : List X} {R : List (List AVal)} {c : X -> X -> Int}
theorem addNN {a b : Nat} (h : a + b < 4611686018427387904) : V.bin .add (.int .i64 (a : Int)) (.int .i64 (b : Int)) = some (.int .i64 ((a + b : Nat) : Int)) := by
 rw [V.zep, show (a : Int) + (b : Int) = ((a + b : Nat) : Int) by simp, wrap_i64 (by omega) (by omega)]
theorem subNN {a b : Nat} (h : b <= a) (h2 : a < 4611686018427387904) : V.bin .sub (.int .i64 (a : Int)) (.int .i64 (b : Int)) = some (.int .i64 ((a - b : Nat) : Int)) := by
 rw [V.zkq, show (a : Int) - (b : Int) = ((a - b : Nat) : Int) by omega, wrap_i64 (by omega) (by omega)]
end
end Go.Ab
namespace Go.Ab
variable {C : CSem} {N : zN}
structure Rdr where
 at_ : Nat
 bad : Bool
def zg9 (l : List UInt8) : Nat := l.foldl (fun n c => 256 * n + c.toNat) 0
theorem zn9 (l : List UInt8) (c : UInt8) : zg9 (l ++ [c]) = 256 * zg9 l + c.toNat := by simp [zg9]
def rNum (b : List UInt8) (k : Nat) (r : Rdr) : Int × Rdr := if r.bad = true ∨ b.length - r.at_ < k then (0, ⟨r.at_, true⟩) else (IntKind.i64.wrap (zg9 ((b.drop r.at_).take k)), ⟨r.at_ + k, false⟩)
def zdy (b : List UInt8) (r : Rdr) : List UInt8 × Rdr := if r.bad then ([], r) else ((ze2 (b.drop r.at_)).1, ⟨r.at_ + (ze2 (b.drop r.at_)).2.1, !(ze2 (b.drop r.at_)).2.2⟩)
theorem zes {b : List UInt8} {k : Nat} {r : Rdr} (h : r.at_ <= b.length) : (rNum b k r).2.at_ <= b.length := by
 unfold rNum; split
 ·exact h
 ·rename_i hh; simp only [not_or] at hh; simp only; omega
theorem zn7 : ∀ b : List UInt8, (ze2 b).2.1 <= b.length
 | [] => by simp [ze2]
 | c :: r => by rw [zgo]; split <;> simp; rename_i hh; simp only [not_or] at hh; omega
theorem zny {b : List UInt8} {r : Rdr} (h : r.at_ <= b.length) : (zdy b r).2.at_ <= b.length := by
 unfold zdy; split
 ·exact h
 ·have := zn7 (b.drop r.at_); simp at this ⊢; omega
abbrev RdAt (h0 h : za) (p x : AVal) (r : Rdr) : Prop := Owns h0 h [.box p [x, .int .i64 (r.at_ : Int), .bool r.bad]]
theorem or_add (n c : Int) (hc0 : 0 <= c) (hc : c < 256) : V.bin .or (.int .i64 (IntKind.i64.wrap (n * 256))) (.int .i64 c) = some (.int .i64 (IntKind.i64.wrap (256 * n + c))) := by
 have key : (BitVec.ofInt 64 (IntKind.i64.wrap (n * 256)) ||| BitVec.ofInt 64 c) = BitVec.ofInt 64 (256 * n + c) := by
  have e1 : BitVec.ofInt 64 (IntKind.i64.wrap (n * 256)) = BitVec.ofInt 64 n <<< 8 := by
   apply BitVec.eq_of_toInt_eq
   rw [IntKind.wrap_i64, BitVec.toInt_shiftLeft, BitVec.toInt_ofInt, BitVec.toNat_ofInt]
   simp only [Int.bmod, Nat.shiftLeft_eq]
   omega
  have e2 : BitVec.ofInt 64 (256 * n + c) = (BitVec.ofInt 64 n <<< 8) + BitVec.ofInt 64 c := by
   apply BitVec.eq_of_toInt_eq
   rw [BitVec.toInt_add, BitVec.toInt_shiftLeft, BitVec.toInt_ofInt, BitVec.toInt_ofInt, BitVec.toNat_ofInt]
   simp only [Int.bmod, Nat.shiftLeft_eq]
   omega
  rw [e1, e2]
  symm
  apply BitVec.add_eq_or_of_and_eq_zero
  apply BitVec.eq_of_getLsbD_eq
  intro i hi
  simp only [BitVec.getLsbD_and, BitVec.getLsbD_shiftLeft, BitVec.getLsbD_zero]
  by_cases h8 : i < 8
  ·simp [h8]
  ·have : (BitVec.ofInt 64 c).getLsbD i = false := by
    rw [BitVec.getLsbD, BitVec.toNat_ofInt]
    apply Nat.testBit_lt_two_pow
    have h1 : (c % ((2 ^ 64 : Nat) : Int)).toNat = c.toNat := by omega
    rw [h1]
    have h2 : 2 ^ 8 <= 2 ^ i := Nat.pow_le_pow_right (by omega) (by omega)
    omega
   rw [this, Bool.and_false]
 simp only [V.bin, V.arith, if_true]
 show some (AVal.int .i64 (IntKind.i64.wrap ((BitVec.ofInt 64 (IntKind.i64.wrap (n * 256)) ||| BitVec.ofInt 64 c).toNat : Int))) = _
 rw [key]
 congr 2
 rw [IntKind.wrap_i64, IntKind.wrap_i64, BitVec.toNat_ofInt]
 omega
theorem bin_shl {k j : IntKind} {a b : Int} (h0 : 0 <= b) (h1 : b < k.bits) : V.bin .shl (.int k a) (.int j b) = some (.int k (k.wrap (a * 2 ^ b.toNat))) := by
 simp only [V.bin, V.shift]
 rw [if_neg (by omega), Nat.min_eq_left (by omega)]
theorem wrap_wrap (n c : Int) : IntKind.i64.wrap (256 * IntKind.i64.wrap n + c) = IntKind.i64.wrap (256 * n + c) := by
 simp only [IntKind.wrap_i64]; omega
def zn.Spec (C : CSem) (N : zN) : Prop := ∀ (h0 h : za) (p x : AVal) (b : List UInt8) (R : List (List AVal)) (r : Rdr) (k : Nat) (Q : zQ), SlX h0 1 x (b.map bc) R -> b.length < 4611686018427387904 -> r.at_ <= b.length -> k <= 8 -> RdAt h0 h p x r ->
 (∀ h', RdAt h0 h' p x (rNum b k r).2 -> Q (.int .i64 (rNum b k r).1) h') -> C (N 65) [p, .int .i64 (k : Int)] h Q
theorem zn.spec (i : zn.Imp C N) : zn.Spec C N := by
 intro h0 h p x b R r k Q hx hb hr hk ho hq
 apply i
 obtain ⟨id, rfl, hbx⟩ := ho.zgr 0 rfl
 have hx1 := hx.mono ho.le
 have hlx := hx1.zj
 rw [List.length_map] at hlx
 have ew : IntKind.i64.wrap ((b.length : Int) - r.at_) = (b.length : Int) - r.at_ := wrap_i64 (by omega) (by omega)
 simp +contextual -dsimp [zd3 hbx, hlx, ew]
 refine ho.zm0 0 rfl rfl (by simp) fun h1 ho1 _ => ?_
 obtain ⟨id', e, hbx1⟩ := ho1.zgr 0 rfl
 cases e
 have hx2 := hx.mono ho1.le
 simp +contextual -dsimp [zd3 hbx1]
 refine B.ze (fun h2 => ?_) (fun h2 => ?_)
 ·have e1 : rNum b k r = (0, ⟨r.at_, true⟩) := by unfold rNum; rw [if_pos]; cases hbad : r.bad <;> simp [hbad] at h2 ⊢; omega
  rw [e1] at hq
  refine zk (hq _ ?_)
  simpa [h2] using ho1
 ·have hbad : r.bad = false := by cases hbad : r.bad <;> simp [hbad] at h2 ⊢
  have hlt : r.at_ + k <= b.length := by simp [hbad] at h2; omega
  have e1 : rNum b k r = (IntKind.i64.wrap (zg9 ((b.drop r.at_).take k)), ⟨r.at_ + k, false⟩) := by unfold rNum; rw [if_neg]; simp [hbad]; omega
  rw [e1] at hq
  have ea : IntKind.i64.wrap ((r.at_ : Int) + k) = ((r.at_ + k : Nat) : Int) := by rw [wrap_i64 (by omega) (by omega)]; omega
  obtain ⟨z, R', e2, e3, _⟩ := hx2.zh0 (by omega) (lo := r.at_) (hi := r.at_ + k) (a := some (.int .i64 (r.at_ : Int))) (b := some (.int .i64 ((r.at_ + k : Nat) : Int))) (.inr ⟨_, rfl⟩) (.inr ⟨_, rfl⟩) (by omega) (by omega)
  have e4 : (b.take (r.at_ + k)).drop r.at_ = (b.drop r.at_).take k := by rw [List.drop_take]; congr 1; omega
  rw [e4] at e3
  have hlz := e3.zj
  have hln : ((b.drop r.at_).take k).length = k := by simp; omega
  rw [List.length_map, hln] at hlz
  simp -dsimp only [zn.k4, B.zf9, V.zfy, B.zi, B.zii, zd3 hbx1, Nat.zero_add, List.getElem?_cons_zero, List.set, List.getElem?_cons_succ, V.zep, ea, e2, hlz]
  refine zd.intro (fun n vs hh => ∃ j : Nat, j + n = k ∧ vs = [.int .i64 (IntKind.i64.wrap (zg9 (((b.drop r.at_).take k).take j))), .int .i64 j] ∧ hh = h1) k ?_ ⟨0, by simp, by simp [zg9]; rfl, rfl⟩
  rintro Y n vs hh ⟨j, hn, rfl, rfl⟩ hY
  simp +contextual -dsimp
  refine B.ze (fun h3 => ?_) (fun h3 => ?_) <;> simp at h3
  ·obtain ⟨c, hc⟩ := zdz (L := (b.drop r.at_).take k) (k := j) (by omega)
   have hj : j < (((b.drop r.at_).take k).map bc).length := by rw [List.length_map]; omega
   have hcl := u8_lt c
   have ec : IntKind.i64.wrap (c.toNat : Int) = c.toNat := wrap_i64 (by omega) (by omega)
   have e5 := e3.cell (get_map hc)
   have e6 : bS.c c = .int .u8 c.toNat := rfl
   simp +contextual -dsimp [e3.idxN hj, e5, e6, bin_shl (k := .i64) (j := .u64) (b := 8) (by omega) (by simp [IntKind.bits]), ec]
   rw [or_add _ _ (by omega) (by omega)]
   simp +contextual -dsimp [zf8 (n := j) (by omega)]
   refine hY (n - 1) _ _ (by omega) ⟨j + 1, by omega, ?_, rfl⟩
   rw [take_succ hc, zn9, wrap_wrap]
   simp
  ·have hjk : j = k := by omega
   subst hjk
   rw [List.take_take, Nat.min_self]
   simp -dsimp only [zn.k1, B.zf9, V.zfy, B.zi, B.zii, zd3 hbx1, Nat.zero_add, List.getElem?_cons_zero, List.set, List.getElem?_cons_succ, V.zep, ea]
   refine ho1.zm0 0 rfl rfl (by simp) fun h4 ho4 _ => zk (hq _ ?_)
   show Owns h0 h4 [.box _ [x, .int .i64 ((r.at_ + j : Nat) : Int), .bool false]]
   simpa [h2] using ho4
def zo.Spec (C : CSem) (N : zN) : Prop := ∀ (h0 h : za) (p x : AVal) (b : List UInt8) (R : List (List AVal)) (r : Rdr) (k : Nat) (Q : zQ), SlX h0 1 x (b.map bc) R -> b.length < 4611686018427387904 -> r.at_ <= b.length -> k <= 8 -> RdAt h0 h p x r ->
 (∀ h', RdAt h0 h' p x (rNum b k r).2 -> Q (.int .i64 (rNum b k r).1) h') -> C (N 71) [p, .int .i64 (k : Int)] h Q
theorem zo.spec (i : zo.Imp C N) : zo.Spec C N := by
 intro h0 h p x b R r k Q hx hb hr hk ho hq
 apply i
 obtain ⟨id, rfl, hbx⟩ := ho.zgr 0 rfl
 have hx1 := hx.mono ho.le
 have hlx := hx1.zj
 rw [List.length_map] at hlx
 have ew : IntKind.i64.wrap ((b.length : Int) - r.at_) = (b.length : Int) - r.at_ := wrap_i64 (by omega) (by omega)
 simp +contextual -dsimp [zd3 hbx, hlx, ew]
 refine B.ze (fun h2 => ?_) (fun h2 => ?_)
 ·have e1 : rNum b k r = (0, ⟨r.at_, true⟩) := by unfold rNum; rw [if_pos]; cases hbad : r.bad <;> simp [hbad] at h2 ⊢; omega
  rw [e1] at hq
  simp +contextual -dsimp
  refine ho.zm0 0 rfl rfl (by simp) fun h1 ho1 _ => zk (hq _ ?_)
  simpa using ho1
 ·have hbad : r.bad = false := by cases hbad : r.bad <;> simp [hbad] at h2 ⊢
  have hlt : r.at_ + k <= b.length := by simp [hbad] at h2; omega
  have e1 : rNum b k r = (IntKind.i64.wrap (zg9 ((b.drop r.at_).take k)), ⟨r.at_ + k, false⟩) := by unfold rNum; rw [if_neg]; simp [hbad]; omega
  rw [e1] at hq
  have ea : IntKind.i64.wrap ((r.at_ : Int) + k) = ((r.at_ + k : Nat) : Int) := by rw [wrap_i64 (by omega) (by omega)]; omega
  refine zd.intro (fun n vs hh => ∃ j : Nat, j + n = k ∧ vs = [.int .u64 (IntKind.u64.wrap (zg9 (((b.drop r.at_).take k).take j))), .int .i64 j] ∧ hh = h) k ?_ ⟨0, by simp, by simp [zg9]; rfl, rfl⟩
  rintro Y n vs hh ⟨j, hn, rfl, rfl⟩ hY
  simp +contextual -dsimp
  refine B.ze (fun h3 => ?_) (fun h3 => ?_) <;> simp at h3
  ·obtain ⟨c, hc⟩ := zdz (L := b) (k := r.at_ + j) (by omega)
   have hc2 : ((b.drop r.at_).take k)[j]? = some c := by rw [List.getElem?_take_of_lt h3, List.getElem?_drop]; exact hc
   have hj : r.at_ + j < (b.map bc).length := by rw [List.length_map]; omega
   have hcl := u8_lt c
   have ec : IntKind.u64.wrap (c.toNat : Int) = c.toNat := by rw [wrap_u64]; omega
   have e5 := hx1.cell (get_map hc)
   have e6 : bS.c c = .int .u8 c.toNat := rfl
   have e7 : IntKind.i64.wrap ((r.at_ : Int) + j) = ((r.at_ + j : Nat) : Int) := by rw [wrap_i64 (by omega) (by omega)]; omega
   simp -dsimp only [B.zf9, V.zfy, B.zi, B.zii, zd3 hbx, Nat.zero_add, List.getElem?_cons_zero, List.getElem?_cons_succ, V.zep, V.zvp, V.toInt_int, e7, hx1.idxN hj, e5, e6, ec, zf8 (n := j) (by omega)]
   refine hY (n - 1) _ _ (by omega) ⟨j + 1, by omega, ?_, rfl⟩
   rw [take_succ hc2, zn9]
   simp only [wrap_u64]
   congr 2
   omega
  ·have hjk : j = k := by omega
   subst hjk
   rw [List.take_take, Nat.min_self]
   simp -dsimp only [zo.k1, B.zf9, V.zfy, B.zi, B.zii, zd3 hbx, Nat.zero_add, List.getElem?_cons_zero, List.getElem?_cons_succ, V.zep, ea, V.toInt_int]
   refine ho.zm0 0 rfl rfl (by simp) fun h4 ho4 _ => zk ?_
   have e8 : IntKind.i64.wrap (IntKind.u64.wrap (zg9 ((b.drop r.at_).take j))) = IntKind.i64.wrap (zg9 ((b.drop r.at_).take j)) := by simp only [wrap_u64, IntKind.wrap_i64]; omega
   rw [e8]
   exact hq _ (by show Owns h0 h4 [.box _ [x, .int .i64 ((r.at_ + j : Nat) : Int), .bool false]]; simpa [hbad] using ho4)
def zb0.Spec (C : CSem) (N : zN) : Prop := ∀ (h0 h : za) (p x : AVal) (b : List UInt8) (R : List (List AVal)) (r : Rdr) (Q : zQ), SlX h0 1 x (b.map bc) R -> b.length < 4611686018427387904 -> r.at_ <= b.length -> RdAt h0 h p x r ->
 (∀ h', RdAt h0 h' p x (zdy b r).2 -> Q (.str (zdy b r).1) h') -> C (N 66) [p] h Q
theorem zb0.spec (i : zb0.Imp C N) (s1 : zf5.Spec C N) : zb0.Spec C N := by
 intro h0 h p x b R r Q hx hb hr ho hq
 apply i
 obtain ⟨id, rfl, hbx⟩ := ho.zgr 0 rfl
 have hx1 := hx.mono ho.le
 simp +contextual -dsimp [zd3 hbx]
 refine B.ze (fun h2 => ?_) (fun h2 => ?_)
 ·rw [show zdy b r = ([], r) by simp [zdy, h2]] at hq
  exact zk (hq _ ho)
 ·rw [show zdy b r = ((ze2 (b.drop r.at_)).1, ⟨r.at_ + (ze2 (b.drop r.at_)).2.1, !(ze2 (b.drop r.at_)).2.2⟩) by simp [zdy, h2]] at hq
  obtain ⟨z, R', e2, e3, _⟩ := hx1.zh0 (by omega) (lo := r.at_) (hi := b.length) (a := some (.int .i64 (r.at_ : Int))) (b := none) (.inr ⟨_, rfl⟩) (.inl ⟨rfl, rfl⟩) (by omega) (by omega)
  rw [List.take_length] at e3
  have hle := zn7 (b.drop r.at_)
  rw [List.length_drop] at hle
  simp +contextual -dsimp [zd3 hbx, e2]
  refine s1 z _ _ _ _ e3 (by simp; omega) ?_
  simp +contextual -dsimp
  refine ho.zm0 0 rfl rfl (by simp) fun h1 ho1 _ => ?_
  obtain ⟨id', e, hbx1⟩ := ho1.zgr 0 rfl
  cases e
  have ea : IntKind.i64.wrap ((r.at_ : Int) + (ze2 (b.drop r.at_)).2.1) = ((r.at_ + (ze2 (b.drop r.at_)).2.1 : Nat) : Int) := by rw [wrap_i64 (by omega) (by omega)]; omega
  simp -dsimp only [B.zf9, V.zfy, B.zi, B.zii, zd3 hbx1, Nat.zero_add, List.getElem?_cons_zero, List.getElem?_cons_succ, List.set, V.zep, ea]
  exact ho1.zm0 0 rfl rfl (by simp) fun h4 ho4 _ => zk (hq _ ho4)
def zbt.Spec (C : CSem) (N : zN) : Prop := ∀ (h0 h : za) (p x : AVal) (b : List UInt8) (R : List (List AVal)) (r : Rdr) (Q : zQ), SlX h0 1 x (b.map bc) R -> b.length < 4611686018427387904 -> r.at_ <= b.length -> RdAt h0 h p x r ->
 (∀ h', RdAt h0 h' p x (zdy b r).2 -> Q (.str (zdy b r).1) h') -> C (N 73) [p] h Q
theorem zbt.spec (i : zbt.Imp C N) (s1 : zfe.Spec C N) : zbt.Spec C N := by
 intro h0 h p x b R r Q hx hb hr ho hq
 apply i
 obtain ⟨id, rfl, hbx⟩ := ho.zgr 0 rfl
 have hx1 := hx.mono ho.le
 simp +contextual -dsimp [zd3 hbx]
 refine B.ze (fun h2 => ?_) (fun h2 => ?_)
 ·rw [show zdy b r = ([], r) by simp [zdy, h2]] at hq
  exact zk (hq _ ho)
 ·rw [show zdy b r = ((ze2 (b.drop r.at_)).1, ⟨r.at_ + (ze2 (b.drop r.at_)).2.1, !(ze2 (b.drop r.at_)).2.2⟩) by simp [zdy, h2]] at hq
  obtain ⟨z, R', e2, e3, _⟩ := hx1.zh0 (by omega) (lo := r.at_) (hi := b.length) (a := some (.int .i64 (r.at_ : Int))) (b := none) (.inr ⟨_, rfl⟩) (.inl ⟨rfl, rfl⟩) (by omega) (by omega)
  rw [List.take_length] at e3
  have hle := zn7 (b.drop r.at_)
  rw [List.length_drop] at hle
  simp +contextual -dsimp [zd3 hbx, e2]
  refine s1 z _ _ _ _ e3 (by simp; omega) ?_
  simp +contextual -dsimp
  refine ho.zm0 0 rfl rfl (by simp) fun h1 ho1 _ => ?_
  obtain ⟨id', e, hbx1⟩ := ho1.zgr 0 rfl
  cases e
  have ea : IntKind.i64.wrap ((r.at_ : Int) + (ze2 (b.drop r.at_)).2.1) = ((r.at_ + (ze2 (b.drop r.at_)).2.1 : Nat) : Int) := by rw [wrap_i64 (by omega) (by omega)]; omega
  simp -dsimp only [B.zf9, V.zfy, B.zi, B.zii, zd3 hbx1, Nat.zero_add, List.getElem?_cons_zero, List.getElem?_cons_succ, List.set, V.zep, ea]
  exact ho1.zm0 0 rfl rfl (by simp) fun h4 ho4 _ => zk (hq _ ho4)
def rLot (b : List UInt8) (r : Rdr) : Lot × Rdr :=
 let a := rNum b 8 r
 let c := zdy b a.2
 let f := rNum b 2 c.2
 let u := rNum b 2 f.2
 let q := rNum b 8 u.2
 let e := rNum b 1 q.2
 (⟨a.1, c.1, f.1, u.1, q.1, decide (e.1 = 1)⟩, ⟨e.2.at_, e.2.bad || decide (1 < e.1)⟩)
theorem rLot_le {b : List UInt8} {r : Rdr} (h : r.at_ <= b.length) : (rLot b r).2.at_ <= b.length :=
 zes (zes (zes (zes (zny (zes h)))))
def rUse (b : List UInt8) (r : Rdr) : Use × Rdr :=
 let a := rNum b 8 r
 let c := rNum b 8 a.2
 let f := rNum b 8 c.2
 (⟨a.1, c.1, f.1⟩, f.2)
theorem rUse_le {b : List UInt8} {r : Rdr} (h : r.at_ <= b.length) : (rUse b r).2.at_ <= b.length := zes (zes (zes h))
def zcg.Spec (C : CSem) (N : zN) : Prop := ∀ (h0 h : za) (p x : AVal) (b : List UInt8) (R : List (List AVal)) (r : Rdr) (Q : zQ), SlX h0 1 x (b.map bc) R -> b.length < 4611686018427387904 -> r.at_ <= b.length -> RdAt h0 h p x r ->
 (∀ h', RdAt h0 h' p x (rLot b r).2 -> Q (.agg (rLot b r).1.cs) h') -> C (N 67) [p] h Q
theorem zcg.spec (i : zcg.Imp C N) (s1 : zn.Spec C N) (s2 : zb0.Spec C N) : zcg.Spec C N := by
 intro h0 h p x b R r Q hx hb hr ho hq
 apply i
 simp +contextual -dsimp
 refine s1 h0 h p x b R r 8 _ hx hb hr (by omega) ho fun h1 ho1 => ?_
 have l1 := zes (k := 8) hr
 refine s2 h0 h1 p x b R _ _ hx hb l1 ho1 fun h2 ho2 => ?_
 have l2 := zny l1
 simp +contextual -dsimp
 refine s1 h0 h2 p x b R _ 2 _ hx hb l2 (by omega) ho2 fun h3 ho3 => ?_
 have l3 := zes (k := 2) l2
 refine s1 h0 h3 p x b R _ 2 _ hx hb l3 (by omega) ho3 fun h4 ho4 => ?_
 have l4 := zes (k := 2) l3
 simp +contextual -dsimp
 refine s1 h0 h4 p x b R _ 8 _ hx hb l4 (by omega) ho4 fun h5 ho5 => ?_
 have l5 := zes (k := 8) l4
 simp +contextual -dsimp
 refine s1 h0 h5 p x b R _ 1 _ hx hb l5 (by omega) ho5 fun h6 ho6 => ?_
 obtain ⟨id, rfl, hbx⟩ := ho6.zgr 0 rfl
 simp +contextual -dsimp [zd3 hbx]
 refine ho6.zm0 0 rfl rfl (by simp) fun h7 ho7 _ => ?_
 simp +contextual -dsimp
 exact zk (hq _ ho7)
def ze5.Spec (C : CSem) (N : zN) : Prop := ∀ (h0 h : za) (p x : AVal) (b : List UInt8) (R : List (List AVal)) (r : Rdr) (Q : zQ), SlX h0 1 x (b.map bc) R -> b.length < 4611686018427387904 -> r.at_ <= b.length -> RdAt h0 h p x r ->
 (∀ h', RdAt h0 h' p x (rLot b r).2 -> Q (.agg (rLot b r).1.cs) h') -> C (N 72) [p] h Q
theorem ze5.spec (i : ze5.Imp C N) (s1 : zo.Spec C N) (s2 : zbt.Spec C N) : ze5.Spec C N := by
 intro h0 h p x b R r Q hx hb hr ho hq
 apply i
 simp +contextual -dsimp
 refine s1 h0 h p x b R r 8 _ hx hb hr (by omega) ho fun h1 ho1 => ?_
 have l1 := zes (k := 8) hr
 simp +contextual -dsimp
 refine s2 h0 h1 p x b R _ _ hx hb l1 ho1 fun h2 ho2 => ?_
 have l2 := zny l1
 simp +contextual -dsimp
 refine s1 h0 h2 p x b R _ 2 _ hx hb l2 (by omega) ho2 fun h3 ho3 => ?_
 have l3 := zes (k := 2) l2
 simp +contextual -dsimp
 refine s1 h0 h3 p x b R _ 2 _ hx hb l3 (by omega) ho3 fun h4 ho4 => ?_
 have l4 := zes (k := 2) l3
 simp +contextual -dsimp
 refine s1 h0 h4 p x b R _ 8 _ hx hb l4 (by omega) ho4 fun h5 ho5 => ?_
 have l5 := zes (k := 8) l4
 simp +contextual -dsimp
 refine s1 h0 h5 p x b R _ 1 _ hx hb l5 (by omega) ho5 fun h6 ho6 => ?_
 obtain ⟨id, rfl, hbx⟩ := ho6.zgr 0 rfl
 simp +contextual -dsimp [zd3 hbx]
 refine ho6.zm0 0 rfl rfl (by simp) fun h7 ho7 _ => ?_
 simp +contextual -dsimp
 exact zk (hq _ ho7)
def zcf.Spec (C : CSem) (N : zN) : Prop := ∀ (h0 h : za) (p x : AVal) (b : List UInt8) (R : List (List AVal)) (r : Rdr) (Q : zQ), SlX h0 1 x (b.map bc) R -> b.length < 4611686018427387904 -> r.at_ <= b.length -> RdAt h0 h p x r ->
 (∀ h', RdAt h0 h' p x (rUse b r).2 -> Q (.agg (rUse b r).1.cs) h') -> C (N 69) [p] h Q
theorem zcf.spec (i : zcf.Imp C N) (s1 : zn.Spec C N) : zcf.Spec C N := by
 intro h0 h p x b R r Q hx hb hr ho hq
 apply i
 simp +contextual -dsimp
 refine s1 h0 h p x b R r 8 _ hx hb hr (by omega) ho fun h1 ho1 => ?_
 have l1 := zes (k := 8) hr
 refine s1 h0 h1 p x b R _ 8 _ hx hb l1 (by omega) ho1 fun h2 ho2 => ?_
 have l2 := zes (k := 8) l1
 refine s1 h0 h2 p x b R _ 8 _ hx hb l2 (by omega) ho2 fun h3 ho3 => ?_
 simp +contextual -dsimp
 exact zk (hq _ ho3)
end Go.Ab
namespace Go.Ab
variable {C : CSem}
section
variable {X : Type} {c : X -> X -> Int} {a b m A0 Z0 : Nat} {G G' : List X}
end
abbrev I5 (F : AVal -> AVal -> AVal -> AVal -> AVal -> za -> (zQ) -> Prop) (C : CSem) (n : Nat) : Prop := ∀ (v0 v1 v2 v3 v4 : AVal) (h : za) (Q : zQ), F v0 v1 v2 v3 v4 h (dn Q) -> C n [v0, v1, v2, v3, v4] h Q
abbrev I4 (F : AVal -> AVal -> AVal -> AVal -> za -> (zQ) -> Prop) (C : CSem) (n : Nat) : Prop := ∀ (v0 v1 v2 v3 : AVal) (h : za) (Q : zQ), F v0 v1 v2 v3 h (dn Q) -> C n [v0, v1, v2, v3] h Q
section
variable {E : zfz} {X : Type} {cs : X -> List AVal} {v : X -> AVal} {h0 h : za} {x f : AVal} {G : List X} {R : List (List AVal)} {c : X -> X -> Int} {Q : zQ} {Y : zL} {f1 f2 f3 f4 f5 f6 f7 f8 f9 g1 g2 g3 g4 g5 g6 : Nat}
end
end Go.Ab
set_option maxRecDepth 100000
namespace Go.Ab
def Cst (C : CSem) : CSem := fun f args h Q => C f args.dropLast h Q
abbrev J4 (F : AVal -> AVal -> AVal -> AVal -> za -> (zQ) -> Prop) (C : CSem) (n : Nat) : Prop := ∀ (v0 v1 v2 v3 : AVal) (h : za) (Q : zQ), F v0 v1 v2 v3 h (dn Q) -> C n [v0, v1, v2, v3] h Q
abbrev J3 (F : AVal -> AVal -> AVal -> za -> (zQ) -> Prop) (C : CSem) (n : Nat) : Prop := ∀ (v0 v1 v2 : AVal) (h : za) (Q : zQ), F v0 v1 v2 h (dn Q) -> C n [v0, v1, v2] h Q
theorem e4 {F : AVal -> AVal -> AVal -> AVal -> AVal -> za -> (zQ) -> Prop} {G : AVal -> AVal -> AVal -> AVal -> za -> (zQ) -> Prop} {C : CSem} {f : Nat} (i : J4 G C f) (e : ∀ v0 v1 v2 v3 v4 h Q, F v0 v1 v2 v3 v4 h Q = G v0 v1 v2 v3 h Q) : I5 F (Cst C) f :=
 fun v0 v1 v2 v3 v4 h Q x => i v0 v1 v2 v3 h Q (by rw [<- e v0 v1 v2 v3 v4]; exact x)
theorem e3 {F : AVal -> AVal -> AVal -> AVal -> za -> (zQ) -> Prop} {G : AVal -> AVal -> AVal -> za -> (zQ) -> Prop} {C : CSem} {f : Nat} (i : J3 G C f) (e : ∀ v0 v1 v2 v3 h Q, F v0 v1 v2 v3 h Q = G v0 v1 v2 h Q) : I4 F (Cst C) f :=
 fun v0 v1 v2 v3 h Q x => i v0 v1 v2 h Q (by rw [<- e v0 v1 v2 v3]; exact x)
section
variable {C : CSem} {E : zfz} {fL e p q s r v b k n ad md o2 sd nx pw : Nat}
end
variable {C : CSem}
def Iter (C : CSem) (g : Nat) (first caps : List AVal) (D : za -> Prop) (xs : List (List AVal)) : Prop :=
 ∀ (id : Nat) (I : Nat -> za -> Prop) (Z : za -> Prop) (h : za) (Q : zQ), (∀ k h, I k h -> D h) ->
  (∀ k x h, xs[k]? = some x -> I k h -> C zo0 (mkY id :: x) h fun v h' => (v = .bool true ∧ I (k + 1) h') ∨ (v = .bool false ∧ Z h')) ->
  I 0 h -> (∀ h, I xs.length h -> Q (.tup []) h) -> (∀ h, Z h -> Q (.tup []) h) -> C g (first ++ [.yld id] ++ caps) h Q
theorem range_iter {g : Nat} {first caps : List AVal} {D : za -> Prop} {xs : List (List AVal)} {W : List AVal -> za -> (Nat -> za -> Prop) -> Prop} {h : za} {K : Nat -> za -> Prop} (hi : Iter C g first caps D xs) (hD : ∀ h h', h.le h' -> D h -> D h')
  (J X : Nat -> za -> Prop) (hJ : ∀ k h, J k h -> D h) (round : ∀ k x h E, xs[k]? = some x -> J k h -> (∀ h', J (k + 1) h' -> E 0 h') -> (∀ j h', X j h' -> E (j + 1) h') -> W x h E)
  (h0 : J 0 h) (hend : ∀ h, J xs.length h -> K 0 h) (hX : ∀ j h, X j h -> K (j + 1) h) : zw9 C (.fn g first caps) W h K := by
 intro mk _ id hid hround
 refine hi id (fun k h2 => ∃ h1 : za, h1 id = none ∧ h2 = upd h1 id (mk 0) ∧ J k h1) (fun h2 => ∃ (j : Nat) (h1 : za), h1 id = none ∧ h2 = upd h1 id (mk (j + 1)) ∧ X j h1) _ _ ?_ ?_ ⟨h, hid, rfl, h0⟩ ?_ ?_
 ·rintro k _ ⟨h1, e, rfl, hj⟩
  exact hD _ _ (zhw _ e) (hJ k h1 hj)
 ·rintro k x _ hx ⟨h1, e, rfl, hj⟩
  exact hround x h1 _ e (round k x h1 _ hx hj (fun h' hj' => ⟨h', za.le_refl h', fun e' => .inl ⟨rfl, h', e', rfl, hj'⟩⟩) fun j h' hx' => ⟨h', za.le_refl h', fun e' => .inr ⟨rfl, j, h', e', rfl, hx'⟩⟩)
 ·rintro _ ⟨h1, e, rfl, hj⟩
  exact ⟨0, h1, e, za.le_refl _, hend h1 hj⟩
 ·rintro _ ⟨j, h1, e, rfl, hx⟩
  exact ⟨j + 1, h1, e, za.le_refl _, hX j h1 hx⟩
theorem RK.here {k : Nat} {p : za -> Prop} {r : List (Nat × (za -> Prop))} {h : za} (x : p h) : RK ((k, p) :: r) k h := .inl ⟨rfl, x⟩
theorem B.callv_yld {id : Nat} {args : List AVal} {h : za} {K : zQ} : B.zkp h C (.yld id) args K = C zo0 (mkY id :: args) h K := rfl
end Go.Ab
namespace Go.Ab
variable {C : CSem} {N : zN}
theorem Owns.cutTo {h0 h : za} {es : Nat} {x : AVal} {L R : List (List AVal)} (ho : Owns h0 h [.sl es x L R]) (hes : 0 < es) {k : Nat} (hk : k <= L.length) : ∃ y, V.zf1 es x none (some (.int .i64 (k : Int))) = some y ∧ Owns h0 h [.sl es y (L.take k) (L.drop k ++ R)] := by
 obtain ⟨y, h1, h2, h3⟩ := (ho.slAt 0 rfl).slice hes (a := none) (b := some (.int .i64 (k : Int))) (lo := 0) (hi := k) (.inl ⟨rfl, rfl⟩) (.inr ⟨_, rfl⟩) (by omega) (by omega)
 rw [List.drop_zero, List.take_append_of_le_length hk, List.drop_append_of_le_length hk] at h2
 refine ⟨y, h1, ?_⟩
 have := ho.turn (h' := h) 0 rfl (o' := .sl es y (L.take k) (L.drop k ++ R)) h2 (fun id b hf hb => ho.zlp 0 rfl id b (by rw [show Ob.foot (.sl es x L R) = foot x from rfl, <- h3]; exact hf) hb) (fun _ _ h _ => h) (.inl (by rw [show Ob.foot (.sl es y _ _) = foot y from rfl, h3]; rfl))
 simpa using this
end Go.Ab
namespace Go.Ab
variable {C : CSem} {N : zN}
theorem V.bin_slss (a b : List UInt8) : V.bin .lss (.str a) (.str b) = some (.bool (zoy a b)) := rfl
theorem repL_one : ∀ (n : Nat) (v : AVal), repL n [v] = List.replicate n v
 | 0, _ => rfl
 | n + 1, v => (congrArg (v :: ·) (repL_one n v)).trans rfl
theorem zpm {α : Type} {L : List (List α)} {k : Nat} (hk : k < L.length) : ((L.take (k + 1)).flatten).length = (L.take k).flatten.length + L[k].length := by
 rw [List.take_add_one, List.getElem?_eq_getElem hk]; simp only [Option.toList_some, List.flatten_append, List.length_append, List.flatten_singleton]
theorem zt8 {α : Type} (L : List (List α)) (k : Nat) : ((L.take k).flatten).length <= L.flatten.length := by
 conv => rhs; rw [<- List.take_append_drop k L]
 simp only [List.flatten_append, List.length_append]; omega
end Go.Ab
namespace Go.Ab
variable {C : CSem} {N : zN}
def zcl.Spec (C : CSem) (N : zN) : Prop := ∀ (n : Int) (k : Nat) (h : za) (Q : zQ), k <= 8 ->
 (∀ x' h', Owns h h' [.sl 1 x' ((be n k).map bc) []] -> Q x' h') -> C (N 423) [.int .i64 n, .int .i64 (k : Int)] h Q
theorem zcl.spec (i : zcl.Imp C N) : zcl.Spec C N := by
 intro n k h Q hk hq
 apply i
 simp -dsimp only [zcl.cps]
 refine ⟨by omega, ?_⟩
 refine (Owns.start h).mks (bytes := 1) (es := 1) rfl (by omega) (by omega) (by omega) (by omega) fun x h1 o1 => ?_
 simp only [Int.toNat_natCast, Nat.sub_self, zsl] at o1
 have hx1 := o1.slAt 0 rfl
 have hlx : V.zj x = some (.int .i64 (k : Int)) := by simpa using hx1.zj
 simp -dsimp only [hlx, B.zi]
 refine zd.intro (fun t vs hh => ∃ (j : Nat) (pre : List UInt8) (z : List (List AVal)), j + t = k ∧ vs = [.int .i64 (j : Int)] ∧ pre.length = j ∧ z.length = t ∧ pre ++ be n t = be n k ∧ Owns h hh [.sl 1 x (pre.map bc ++ z) []]) k ?_ ⟨0, [], _, by omega, rfl, rfl, by simp, rfl, o1⟩
 rintro Y t vs hh ⟨j, pre, z, ht, rfl, hpl, hzl, hpe, o⟩ hY
 simp -dsimp only [zcl.l2, zcl.k1, lssN, B.zi]
 refine B.ze (fun hb => ?_) (fun hb => ?_)
 ·rw [decide_eq_true_eq] at hb
  obtain ⟨t, rfl⟩ : ∃ u, t = u + 1 := ⟨t - 1, by omega⟩
  have e1 : V.bin .sub (.int .i64 (k : Int)) (.int .i64 1) = some (.int .i64 ((k - 1 : Nat) : Int)) := subNN (b := 1) (by omega) (by omega)
  have e2 : V.bin .sub (.int .i64 ((k - 1 : Nat) : Int)) (.int .i64 (j : Int)) = some (.int .i64 (t : Int)) := by
   rw [subNN (by omega) (by omega)]; congr 3; omega
  have e3 : V.bin .mul (.int .i64 8) (.int .i64 (t : Int)) = some (.int .i64 (8 * (t : Int))) := by rw [V.zvp, wrap_i64 (by omega) (by omega)]
  have e4 : V.bin .shr (.int .i64 n) (.int .i64 (8 * (t : Int))) = some (.int .i64 (n.fdiv (2 ^ (8 * t)))) := by
   rw [zvo (by omega) (by simp [IntKind.bits]; omega)]
   congr 4
  have e5 : V.toInt .u8 (.int .i64 (n.fdiv (2 ^ (8 * t)))) = some (.int .u8 ((byt (n.fdiv (2 ^ (8 * t)))).toNat : Int)) := by
   simp -dsimp [zld]
  obtain ⟨c, z', rfl⟩ : ∃ c z', z = c :: z' := by
   cases z with
   | nil => simp at hzl
   | cons c z' => exact ⟨c, z', rfl⟩
  have hxo := o.slAt 0 rfl
  have hjl : j < (pre.map bc ++ c :: z').length := by simp; omega
  have hidx : V.idxS 1 x (.int .i64 (j : Int)) = some (elp 1 x j 0) := hxo.idxN hjl
  have hg : (pre.map bc ++ c :: z')[j]? = some c := by
   rw [List.getElem?_append_right (by simp; omega)]; simp [hpl]
  have hcl : c.length = 1 := hxo.len c (by simp)
  obtain ⟨u, rfl⟩ := List.length_eq_one_iff.1 hcl
  simp -dsimp only [e1, e2, e3, e4, e5, hidx, B.zi]
  refine o.st 0 rfl hg (by omega) rfl fun h3 o3 _ => ?_
  simp -dsimp only [add1 (show j < 4611686018427387904 by omega), B.zi]
  refine hY t _ _ (by omega) ⟨j + 1, pre ++ [byt (n.fdiv (2 ^ (8 * t)))], z', by omega, rfl, by simp [hpl], by simpa using hzl, ?_, ?_⟩
  ·rw [<- hpe, be, List.append_assoc]; rfl
  ·have e : (pre.map bc ++ [u] :: z').set j (([u] : List AVal).set 0 (.int .u8 ((byt (n.fdiv (2 ^ (8 * t)))).toNat : Int))) = (pre ++ [byt (n.fdiv (2 ^ (8 * t)))]).map bc ++ z' := by
    rw [List.set_append_right _ _ (by simp; omega)]
    simp [hpl]
    rfl
   rw [<- e]; exact o3
 ·rw [decide_eq_false_iff_not] at hb
  have : t = 0 := by omega
  subst this
  rw [be, List.append_nil] at hpe
  have hz : z = [] := List.length_eq_zero_iff.1 hzl
  subst hz hpe
  rw [List.append_nil] at o
  exact zk (hq _ _ o)
end Go.Ab
namespace Go.Ab
variable {C : CSem} {N : zN}
def zdm {T : Type} (one : Rdr -> T × Rdr) : Nat -> Rdr -> List T × Rdr
 | 0, r => ([], r)
 | n + 1, r => if r.bad then ([], r) else ((one r).1 :: (zdm one n (one r).2).1, (zdm one n (one r).2).2)
theorem rList_le {T : Type} {one : Rdr -> T × Rdr} {m : Nat} (h1 : ∀ r : Rdr, r.at_ <= m -> (one r).2.at_ <= m) : ∀ (n : Nat) (r : Rdr), r.at_ <= m -> (zdm one n r).2.at_ <= m
 | 0, _, h => h
 | n + 1, r, h => by
  rw [zdm]; split
  ·exact h
  ·exact rList_le h1 n _ (h1 r h)
theorem zjn {T : Type} (one : Rdr -> T × Rdr) : ∀ (n : Nat) (r : Rdr), (zdm one n r).1.length <= n
 | 0, _ => by simp [zdm]
 | n + 1, r => by
  rw [zdm]; split
  ·simp
  ·have := zjn one n (one r).2; simp; omega
theorem zt1 : ∀ (n : Nat) (l : List UInt8), l.length = n -> zg9 l < 256 ^ n
 | 0, l, h => by rw [List.length_eq_zero_iff.1 h]; simp [zg9]
 | n + 1, l, h => by
  have hne : l ≠ [] := fun e => by rw [e] at h; cases h
  obtain ⟨a, c, rfl⟩ : ∃ a c, l = a ++ [c] := ⟨l.dropLast, l.getLast hne, (List.dropLast_concat_getLast hne).symm⟩
  rw [zn9]
  have h1 := zt1 n a (by simp at h; exact h)
  have h2 := u8_lt c
  rw [Nat.pow_succ]
  omega
theorem zmg (b : List UInt8) (r : Rdr) : 0 <= (rNum b 2 r).1 ∧ (rNum b 2 r).1 <= 65535 := by
 unfold rNum
 split
 ·simp
 ·rename_i h
  simp only [not_or] at h
  have := zt1 2 ((b.drop r.at_).take 2) (by simp; omega)
  rw [wrap_i64 (by omega) (by omega)]
  omega
structure zlb (h0 : za) (x : AVal) (b : List UInt8) : Prop where
 is : ∃ R, SlX h0 1 x (b.map bc) R
 lt : b.length < 4611686018427387904
theorem zlb.mono {h0 h : za} {x : AVal} {b : List UInt8} (hr : zlb h0 x b) (hle : h0.le h) : zlb h x b := by
 obtain ⟨⟨R, a⟩, c⟩ := hr; exact ⟨⟨R, a.mono hle⟩, c⟩
def zbi.Spec (C : CSem) (N : zN) : Prop := ∀ (h0 h : za) (p x : AVal) (b : List UInt8) (r : Rdr) (Q : zQ), zlb h0 x b -> r.at_ <= b.length -> RdAt h0 h p x r ->
 (∀ y h', Owns h0 h' [.sl 6 y ((zdm (rLot b) (rNum b 2 r).1.toNat (rNum b 2 r).2).1.map Lot.cs) [], .box p [x, .int .i64 ((zdm (rLot b) (rNum b 2 r).1.toNat (rNum b 2 r).2).2.at_ : Int), .bool (zdm (rLot b) (rNum b 2 r).1.toNat (rNum b 2 r).2).2.bad]] -> Q y h') -> C (N 68) [p, .fn (N 67) [p] []] h Q
theorem zbi.spec (i : zbi.Imp C N) (s1 : zn.Spec C N) (s2 : zcg.Spec C N) : zbi.Spec C N := by
 intro h0 h p x b r Q hx hr ho hq
 apply i
 obtain ⟨⟨R, hxx⟩, hb⟩ := hx
 try simp +contextual -dsimp
 refine s1 h0 h p x b R r 2 _ hxx hb hr (by omega) ho fun h1 ho1 => ?_
 have l1 := zes (k := 2) hr
 obtain ⟨n1, n2⟩ := zmg b r
 generalize rNum b 2 r = a at *
 obtain ⟨z, r1⟩ := a
 simp only at n1 n2 l1 hq ho1 ⊢
 refine zd.intro (fun t vs hh => ∃ (o : AVal) (acc : List Lot) (r : Rdr), vs = [o, .int .i64 (t : Int)] ∧ t <= 65535 ∧ acc.length + t <= 65535 ∧ r.at_ <= b.length ∧ acc ++ (zdm (rLot b) t r).1 = (zdm (rLot b) z.toNat r1).1 ∧ (zdm (rLot b) t r).2 = (zdm (rLot b) z.toNat r1).2 ∧
   Owns h0 hh [.sl 6 o (acc.map Lot.cs) [], .box p [x, .int .i64 (r.at_ : Int), .bool r.bad]]) z.toNat ?_ ⟨.nils, [], r1, by rw [Int.toNat_of_nonneg n1], by omega, by simp; omega, l1, rfl, rfl, (ho1.nils 6).perm (List.Perm.swap ..)⟩
 rintro Y t vs hh ⟨o, acc, r, rfl, ht, hal, hr, e1, e2, ho⟩ hY
 obtain ⟨id, rfl, hbx⟩ := ho.zgr 1 rfl
 simp +contextual -dsimp [zd3 hbx]
 refine B.ze (fun h2 => ?_) (fun h2 => ?_) <;> simp at h2
 ·obtain ⟨t, rfl⟩ : ∃ u, t = u + 1 := ⟨t - 1, by omega⟩
  simp only [zdm, h2.2, Bool.false_eq_true, if_false] at e1 e2
  obtain ⟨q1, q2⟩ := ho.out (l1 := [_]) (l2 := [_])
  try simp +contextual -dsimp
  refine s2 _ hh _ x b R r _ (hxx.mono q1.le) hb hr q2 fun h3 ho3 => ?_
  have ho4 := q1.join ho3
  try simp +contextual -dsimp
  refine ho4.push 0 rfl rfl (by omega) (by simp; omega) (by simp [maxLen]; omega) fun o' h5 ho5 _ => ?_
  have e4 : IntKind.i64.wrap (((t + 1 : Nat) : Int) - 1) = (t : Int) := by rw [wrap_i64 (by omega) (by omega)]; omega
  simp -dsimp only [V.zkq, e4, B.zi]
  refine hY t _ _ (by omega) ⟨o', acc ++ [(rLot b r).1], (rLot b r).2, rfl, by omega, by simp; omega, rLot_le hr, ?_, e2, ?_⟩
  ·rw [<- e1, List.append_assoc]; rfl
  ·rw [List.map_append]; exact ho5
 ·have : (zdm (rLot b) t r) = ([], r) := by
   cases t with
   | zero => rfl
   | succ t => simp [zdm, h2 (by omega)]
  rw [this, List.append_nil] at e1
  rw [this] at e2
  subst e1
  rw [<- e2] at hq
  exact zk (hq _ _ ho)
def zbh.Spec (C : CSem) (N : zN) : Prop := ∀ (h0 h : za) (p x : AVal) (b : List UInt8) (r : Rdr) (Q : zQ), zlb h0 x b -> r.at_ <= b.length -> RdAt h0 h p x r ->
 (∀ y h', Owns h0 h' [.sl 3 y ((zdm (rUse b) (rNum b 2 r).1.toNat (rNum b 2 r).2).1.map Use.cs) [], .box p [x, .int .i64 ((zdm (rUse b) (rNum b 2 r).1.toNat (rNum b 2 r).2).2.at_ : Int), .bool (zdm (rUse b) (rNum b 2 r).1.toNat (rNum b 2 r).2).2.bad]] -> Q y h') -> C (N 70) [p, .fn (N 69) [p] []] h Q
theorem zbh.spec (i : zbh.Imp C N) (s1 : zn.Spec C N) (s2 : zcf.Spec C N) : zbh.Spec C N := by
 intro h0 h p x b r Q hx hr ho hq
 apply i
 obtain ⟨⟨R, hxx⟩, hb⟩ := hx
 try simp +contextual -dsimp
 refine s1 h0 h p x b R r 2 _ hxx hb hr (by omega) ho fun h1 ho1 => ?_
 have l1 := zes (k := 2) hr
 obtain ⟨n1, n2⟩ := zmg b r
 generalize rNum b 2 r = a at *
 obtain ⟨z, r1⟩ := a
 simp only at n1 n2 l1 hq ho1 ⊢
 refine zd.intro (fun t vs hh => ∃ (o : AVal) (acc : List Use) (r : Rdr), vs = [o, .int .i64 (t : Int)] ∧ t <= 65535 ∧ acc.length + t <= 65535 ∧ r.at_ <= b.length ∧ acc ++ (zdm (rUse b) t r).1 = (zdm (rUse b) z.toNat r1).1 ∧ (zdm (rUse b) t r).2 = (zdm (rUse b) z.toNat r1).2 ∧
   Owns h0 hh [.sl 3 o (acc.map Use.cs) [], .box p [x, .int .i64 (r.at_ : Int), .bool r.bad]]) z.toNat ?_ ⟨.nils, [], r1, by rw [Int.toNat_of_nonneg n1], by omega, by simp; omega, l1, rfl, rfl, (ho1.nils 3).perm (List.Perm.swap ..)⟩
 rintro Y t vs hh ⟨o, acc, r, rfl, ht, hal, hr, e1, e2, ho⟩ hY
 obtain ⟨id, rfl, hbx⟩ := ho.zgr 1 rfl
 simp +contextual -dsimp [zd3 hbx]
 refine B.ze (fun h2 => ?_) (fun h2 => ?_) <;> simp at h2
 ·obtain ⟨t, rfl⟩ : ∃ u, t = u + 1 := ⟨t - 1, by omega⟩
  simp only [zdm, h2.2, Bool.false_eq_true, if_false] at e1 e2
  obtain ⟨q1, q2⟩ := ho.out (l1 := [_]) (l2 := [_])
  try simp +contextual -dsimp
  refine s2 _ hh _ x b R r _ (hxx.mono q1.le) hb hr q2 fun h3 ho3 => ?_
  have ho4 := q1.join ho3
  try simp +contextual -dsimp
  refine ho4.push 0 rfl rfl (by omega) (by simp; omega) (by simp [maxLen]; omega) fun o' h5 ho5 _ => ?_
  have e4 : IntKind.i64.wrap (((t + 1 : Nat) : Int) - 1) = (t : Int) := by rw [wrap_i64 (by omega) (by omega)]; omega
  simp -dsimp only [V.zkq, e4, B.zi]
  refine hY t _ _ (by omega) ⟨o', acc ++ [(rUse b r).1], (rUse b r).2, rfl, by omega, by simp; omega, rUse_le hr, ?_, e2, ?_⟩
  ·rw [<- e1, List.append_assoc]; rfl
  ·rw [List.map_append]; exact ho5
 ·have : (zdm (rUse b) t r) = ([], r) := by
   cases t with
   | zero => rfl
   | succ t => simp [zdm, h2 (by omega)]
  rw [this, List.append_nil] at e1
  rw [this] at e2
  subst e1
  rw [<- e2] at hq
  exact zk (hq _ _ ho)
def zhe (b : List UInt8) (e : Int) (r : Rdr) : zdk × Rdr :=
 let i := rNum b 8 r
 let d := rNum b 2 i.2
 let c := zdy b d.2
 let s := rNum b 1 c.2
 let nl := rNum b 2 s.2
 let ls := zdm (rLot b) nl.1.toNat nl.2
 let nu := rNum b 2 ls.2
 let us := zdm (rUse b) nu.1.toNat nu.2
 (⟨e, i.1, d.1 - 1, c.1, byt s.1, ls.1, us.1⟩, us.2)
def zgh (b : List UInt8) : zdk × Rdr := if (rNum b 2 ⟨0, false⟩).1 = 0 then zhe b (rNum b 2 ⟨0, false⟩).1 (rNum b 2 ⟨0, false⟩).2 else (⟨(rNum b 2 ⟨0, false⟩).1, 0, 0, [], 0, [], []⟩, (rNum b 2 ⟨0, false⟩).2)
def zhd : zdk := ⟨0, 0, 0, [], 0, [], []⟩
def zdd (b : List UInt8) : zdk × Nat × Int := if (zgh b).2.bad || !zem (zgh b).1 then (zhd, 0, 4) else ((zgh b).1, (zgh b).2.at_, 0)
theorem Owns.boxStn {h0 h : za} {l : List Ob} (ho : Owns h0 h l) (k : Nat) {id n : Nat} {cs xs : List AVal} {K : za -> Prop} (hk : l[k]? = some (.box (.ptr id 0 0) cs)) (hn : xs.length = n) (hc : cs.length = n)
  (hK : ∀ h', Owns h0 h' (l.set k (.box (.ptr id 0 0) xs)) -> But (.ptr id 0 0) h h' -> K h') : A.stn h (.ptr id 0 0) n (.agg xs) K := by
 obtain ⟨id', e, hb⟩ := ho.zgr k hk
 cases e
 rw [stn_at hb hn (by omega)]
 have e1 : cs.take 0 ++ xs ++ cs.drop (0 + n) = xs := by simp [<- hc]
 rw [e1]
 have hbut : But (.ptr id 0 0) h (upd h id (zej xs)) := fun j b e1 e2 => by rw [zl]; exact e1; intro e; subst e; exact e2 rfl
 exact hK _ (ho.turn k hk ⟨id, rfl, zbf ..⟩ (fun j b hj hb' => by cases hj; rw [zbf] at hb'; cases hb'; rfl) hbut (.inl rfl)) hbut
def zg2 (t : zdk) (r : Rdr) : zdk × Nat × Int := if r.bad || !zem t then (zhd, 0, 4) else (t, r.at_, 0)
theorem znw (b : List UInt8) : zdd b = zg2 (zgh b).1 (zgh b).2 := rfl
@[simp] def zdk.val (g : zdk × Nat × Int) (x y : AVal) : AVal := .tup [.agg (g.1.cs x y), .int .i64 (g.2.1 : Int), .int .i64 g.2.2]
theorem zdx.fin (s : zbw.Spec C N) {h hh : za} {i2 : Nat} {p x : AVal} {cs2 : List AVal} {t : zdk} {r : Rdr} {lx ly : AVal} {Q : zQ} (ho : Owns h hh [.box (.ptr i2 0 0) cs2, .box p [x, .int .i64 (r.at_ : Int), .bool r.bad], .sl 6 lx (t.Lots.map Lot.cs) [], .sl 3 ly (t.Uses.map Use.cs) []])
  (hc : cs2.length = 7) (hl1 : t.Lots.length <= 65535) (hl2 : t.Uses.length <= 65535)
  (hq : ∀ x' y' h', Owns h h' [.sl 6 x' ((zg2 t r).1.Lots.map Lot.cs) [], .sl 3 y' ((zg2 t r).1.Uses.map Use.cs) []] -> Q (zdk.val (zg2 t r) x' y') h') : zdx.k1 C N (dn Q) (.ptr i2 0 0) p (.agg (t.cs lx ly)) hh := by
 obtain ⟨id, rfl, hbx⟩ := ho.zgr 1 rfl
 simp +contextual -dsimp [zd3 hbx]
 refine B.zee (fun _ _ hq => s t lx ly _ _ ⟨⟨_, ho.slAt 2 rfl⟩, ⟨_, ho.slAt 3 rfl⟩⟩ (by omega) (by omega) hq) ?_
 simp +contextual -dsimp
 refine B.ze (fun h1 => ?_) (fun h1 => ?_)
 ·have e : zg2 t r = (zhd, 0, 4) := by unfold zg2; rw [if_pos]; simpa using h1
  rw [e] at hq
  try simp +contextual -dsimp
  refine ho.boxStn 0 rfl rfl hc fun h2 ho2 _ => ?_
  obtain ⟨id', e', hb2⟩ := ho2.zgr 0 rfl
  cases e'
  simp -dsimp [ldnv_at hb2]
  refine zk (hq .nils .nils h2 ?_)
  exact ((Owns.nil ho2.le).nils 6).nils 3
 ·have e : zg2 t r = (t, r.at_, 0) := by unfold zg2; rw [if_neg]; simpa using h1
  rw [e] at hq
  try simp +contextual -dsimp
  simp -dsimp [zd3 hbx]
  refine ho.boxStn 0 rfl rfl hc fun h2 ho2 _ => ?_
  obtain ⟨id', e', hb2⟩ := ho2.zgr 0 rfl
  cases e'
  obtain ⟨id', e', hb3⟩ := ho2.zgr 1 rfl
  cases e'
  refine ⟨fun q hq => ?_, ?_⟩
  ·rw [List.mem_singleton.1 hq]
   exact ⟨.int .i64 (r.at_ : Int), by rw [zd3 hbx]; rfl, by rw [zd3 hb3]; rfl⟩
  ·simp -dsimp [ldnv_at hb2]
   exact zk (hq lx ly h2 (ho2.sub (by simp)))
theorem zbe.fin (s : zbk.Spec C N) {h hh : za} {i2 : Nat} {p x : AVal} {cs2 : List AVal} {t : zdk} {r : Rdr} {lx ly : AVal} {Q : zQ} (ho : Owns h hh [.box (.ptr i2 0 0) cs2, .box p [x, .int .i64 (r.at_ : Int), .bool r.bad], .sl 6 lx (t.Lots.map Lot.cs) [], .sl 3 ly (t.Uses.map Use.cs) []])
  (hc : cs2.length = 7) (hl1 : t.Lots.length <= 65535) (hl2 : t.Uses.length <= 65535)
  (hq : ∀ x' y' h', Owns h h' [.sl 6 x' ((zg2 t r).1.Lots.map Lot.cs) [], .sl 3 y' ((zg2 t r).1.Uses.map Use.cs) []] -> Q (zdk.val (zg2 t r) x' y') h') : zbe.k1 C N (dn Q) (.ptr i2 0 0) p (.agg (t.cs lx ly)) hh := by
 obtain ⟨id, rfl, hbx⟩ := ho.zgr 1 rfl
 simp +contextual -dsimp [zd3 hbx]
 refine B.zee (fun _ _ hq => s t lx ly _ _ ⟨⟨_, ho.slAt 2 rfl⟩, ⟨_, ho.slAt 3 rfl⟩⟩ (by omega) (by omega) hq) ?_
 simp +contextual -dsimp
 refine B.ze (fun h1 => ?_) (fun h1 => ?_)
 ·have e : zg2 t r = (zhd, 0, 4) := by unfold zg2; rw [if_pos]; simpa using h1
  rw [e] at hq
  try simp +contextual -dsimp
  refine ho.boxStn 0 rfl rfl hc fun h2 ho2 _ => ?_
  obtain ⟨id', e', hb2⟩ := ho2.zgr 0 rfl
  cases e'
  simp -dsimp [ldnv_at hb2]
  refine zk (hq .nils .nils h2 ?_)
  exact ((Owns.nil ho2.le).nils 6).nils 3
 ·have e : zg2 t r = (t, r.at_, 0) := by unfold zg2; rw [if_neg]; simpa using h1
  rw [e] at hq
  try simp +contextual -dsimp
  simp -dsimp [zd3 hbx]
  refine ho.boxStn 0 rfl rfl hc fun h2 ho2 _ => ?_
  obtain ⟨id', e', hb2⟩ := ho2.zgr 0 rfl
  cases e'
  obtain ⟨id', e', hb3⟩ := ho2.zgr 1 rfl
  cases e'
  refine ⟨fun q hq => ?_, ?_⟩
  ·rw [List.mem_singleton.1 hq]
   exact ⟨.int .i64 (r.at_ : Int), by rw [zd3 hbx]; rfl, by rw [zd3 hb3]; rfl⟩
  ·simp -dsimp [ldnv_at hb2]
   exact zk (hq lx ly h2 (ho2.sub (by simp)))
def zdx.Spec (C : CSem) (N : zN) : Prop := ∀ (x : AVal) (b : List UInt8) (h : za) (Q : zQ), zlb h x b ->
 (∀ x' y' h', Owns h h' [.sl 6 x' ((zdd b).1.Lots.map Lot.cs) [], .sl 3 y' ((zdd b).1.Uses.map Use.cs) []] -> Q (zdk.val (zdd b) x' y') h') -> C (N 38) [x] h Q
theorem zdx.spec (i : zdx.Imp C N) (s1 : zn.Spec C N) (s2 : zb0.Spec C N) (s3 : zbi.Spec C N) (s4 : zbh.Spec C N) (s5 : zbw.Spec C N) : zdx.Spec C N := by
 intro x b h Q hx hq
 apply i
 rw [znw] at hq
 obtain ⟨⟨R, hxx⟩, hb⟩ := hx
 have hxc := hxx.zm
 try simp -dsimp [hxc]
 intro i2 hi2
 simp -dsimp [hxc]
 intro i9 hi9
 have o1 := (Owns.start h).zlr hi2 [.int .i64 0, .int .i64 0, .int .i64 0, .str [], .int .u8 0, .nils, .nils]
 have o2 := (Owns.start _).zlr hi9 [x, .int .i64 0, .bool false]
 simp only [List.nil_append] at o1 o2
 have hx1 := hxx.mono o1.le
 refine s1 _ _ (.ptr i9 0 0) x b R ⟨0, false⟩ 2 _ hx1 hb (by simp) (by omega) o2 fun h3 o3 => ?_
 have l3 := zes (b := b) (r := ⟨0, false⟩) (k := 2) (by simp)
 simp -dsimp
 refine B.ze (fun h4 => ?_) (fun h4 => ?_)
 ·rw [decide_eq_true_eq] at h4
  rw [show zgh b = zhe b (rNum b 2 ⟨0, false⟩).1 (rNum b 2 ⟨0, false⟩).2 by unfold zgh; rw [if_pos h4]] at hq
  generalize rNum b 2 ⟨0, false⟩ = g3 at *
  obtain ⟨e, r3⟩ := g3
  simp only at h4 l3 o3 hq ⊢
  try simp +contextual -dsimp
  refine s1 _ _ (.ptr i9 0 0) x b R r3 8 _ hx1 hb l3 (by omega) o3 fun h5 o5 => ?_
  have l5 := zes (k := 8) l3
  try simp +contextual -dsimp
  refine s1 _ _ (.ptr i9 0 0) x b R _ 2 _ hx1 hb l5 (by omega) o5 fun h6 o6 => ?_
  have l6 := zes (k := 2) l5
  obtain ⟨n1, n2⟩ := zmg b (rNum b 8 r3).2
  have ew : IntKind.i64.wrap ((rNum b 2 (rNum b 8 r3).2).1 - 1) = (rNum b 2 (rNum b 8 r3).2).1 - 1 := wrap_i64 (by omega) (by omega)
  simp +contextual -dsimp [ew]
  refine s2 _ _ (.ptr i9 0 0) x b R _ _ hx1 hb l6 o6 fun h7 o7 => ?_
  have l7 := zny l6
  try simp +contextual -dsimp
  refine s1 _ _ (.ptr i9 0 0) x b R _ 1 _ hx1 hb l7 (by omega) o7 fun h8 o8 => ?_
  have l8 := zes (k := 1) l7
  simp +contextual -dsimp [zld]
  refine s3 _ _ (.ptr i9 0 0) x b _ _ ⟨⟨R, hx1⟩, hb⟩ l8 o8 fun lx h9 o9 => ?_
  have l9 := rList_le (one := rLot b) (fun r hr => rLot_le hr) (rNum b 2 (rNum b 1 (zdy b (rNum b 2 (rNum b 8 r3).2).2).2).2).1.toNat _ (zes (k := 2) l8)
  have len1 := zjn (rLot b) (rNum b 2 (rNum b 1 (zdy b (rNum b 2 (rNum b 8 r3).2).2).2).2).1.toNat (rNum b 2 (rNum b 1 (zdy b (rNum b 2 (rNum b 8 r3).2).2).2).2).2
  have m1 := zmg b (rNum b 1 (zdy b (rNum b 2 (rNum b 8 r3).2).2).2).2
  have hcx := (o9.slAt 0 rfl).zm
  simp +contextual -dsimp [hcx]
  obtain ⟨q1, q2⟩ := o9.out (l1 := [_]) (l2 := [_])
  refine s4 _ _ (.ptr i9 0 0) x b _ _ (zlb.mono ⟨⟨R, hx1⟩, hb⟩ q1.le) l9 q2 fun ly h10 o10 => ?_
  have hcy := (o10.slAt 0 rfl).zm
  simp -dsimp only [B.al_agg, V.setF_agg, V.zuk, hcy, cond_true, List.length_set, List.length_cons, List.length_nil, List.set, zql, B.zi, if_true, show 6 < 0 + 1 + 1 + 1 + 1 + 1 + 1 + 1 by omega]
  have len2 := zjn (rUse b) (rNum b 2 (zdm (rLot b) (rNum b 2 (rNum b 1 (zdy b (rNum b 2 (rNum b 8 r3).2).2).2).2).1.toNat (rNum b 2 (rNum b 1 (zdy b (rNum b 2 (rNum b 8 r3).2).2).2).2).2).2).1.toNat (rNum b 2 (zdm (rLot b) (rNum b 2 (rNum b 1 (zdy b (rNum b 2 (rNum b 8 r3).2).2).2).2).1.toNat (rNum b 2 (rNum b 1 (zdy b (rNum b 2 (rNum b 8 r3).2).2).2).2).2).2).2
  have m2 := zmg b (zdm (rLot b) (rNum b 2 (rNum b 1 (zdy b (rNum b 2 (rNum b 8 r3).2).2).2).2).1.toNat (rNum b 2 (rNum b 1 (zdy b (rNum b 2 (rNum b 8 r3).2).2).2).2).2).2
  have oo := o1.join (q1.join o10)
  refine zdx.fin s5 (x := x) (cs2 := [.int .i64 0, .int .i64 0, .int .i64 0, .str [], .int .u8 0, .nils, .nils]) (t := (zhe b e r3).1) (r := (zhe b e r3).2) (oo.perm ?_) rfl (by simp only [zhe]; omega) (by simp only [zhe]; omega) hq
  exact List.Perm.cons _ (List.perm_append_comm (l₁ := [_, _]) (l₂ := [_]))
 ·rw [decide_eq_false_iff_not] at h4
  rw [show zgh b = (⟨(rNum b 2 ⟨0, false⟩).1, 0, 0, [], 0, [], []⟩, (rNum b 2 ⟨0, false⟩).2) by unfold zgh; rw [if_neg h4]] at hq
  exact zdx.fin s5 (t := ⟨(rNum b 2 ⟨0, false⟩).1, 0, 0, [], 0, [], []⟩) (((o1.join o3).nils 6).nils 3) rfl (by simp) (by simp) hq
theorem zbe.uses (s1 : zo.Spec C N) {b : List UInt8} {x lx : AVal} {i2 : Nat} {p : AVal} {bs hh : za} {Q : zQ} {e i d : Int} {c : List UInt8} {s : UInt8} {z : Nat} {r1 : Rdr} (hx : zlb bs x b) (hcx : lx.zm = true) (hz : z <= 65535) (hr1 : r1.at_ <= b.length)
  (ho : Owns bs hh [.box p [x, .int .i64 (r1.at_ : Int), .bool r1.bad]])
  (hk : ∀ o h', Owns bs h' [.sl 3 o ((zdm (rUse b) z r1).1.map Use.cs) [], .box p [x, .int .i64 ((zdm (rUse b) z r1).2.at_ : Int), .bool (zdm (rUse b) z r1).2.bad]] -> zbe.k1 C N Q (.ptr i2 0 0) p (.agg [.int .i64 e, .int .i64 i, .int .i64 d, .str c, .int .u8 (s.toNat : Int), lx, o]) h') :
  zd (zbe.l3 C N Q (.ptr i2 0 0) p) [.int .i64 (z : Int), .agg [.int .i64 e, .int .i64 i, .int .i64 d, .str c, .int .u8 (s.toNat : Int), lx, .nils]] hh := by
 obtain ⟨⟨R, hxx⟩, hb⟩ := hx
 refine zd.intro (fun t vs hh => ∃ (o : AVal) (acc : List Use) (r : Rdr), vs = [.int .i64 (t : Int), .agg [.int .i64 e, .int .i64 i, .int .i64 d, .str c, .int .u8 (s.toNat : Int), lx, o]] ∧ t <= 65535 ∧ acc.length + t <= 65535 ∧ r.at_ <= b.length ∧ acc ++ (zdm (rUse b) t r).1 = (zdm (rUse b) z r1).1 ∧ (zdm (rUse b) t r).2 = (zdm (rUse b) z r1).2 ∧
   Owns bs hh [.sl 3 o (acc.map Use.cs) [], .box p [x, .int .i64 (r.at_ : Int), .bool r.bad]]) z ?_ ⟨.nils, [], r1, rfl, by omega, by simp; omega, hr1, rfl, rfl, (ho.nils 3).perm (List.Perm.swap ..)⟩
 rintro Y t vs hh ⟨o, acc, r, rfl, ht, hal, hr, e1, e2, ho⟩ hY
 obtain ⟨id, rfl, hbx⟩ := ho.zgr 1 rfl
 simp +contextual -dsimp [zd3 hbx]
 refine B.ze (fun h2 => ?_) (fun h2 => ?_) <;> simp at h2
 ·obtain ⟨t, rfl⟩ : ∃ u, t = u + 1 := ⟨t - 1, by omega⟩
  simp only [zdm, h2.2, Bool.false_eq_true, if_false] at e1 e2
  obtain ⟨q1, q2⟩ := ho.out (l1 := [_]) (l2 := [_])
  have hx1 := hxx.mono q1.le
  try simp +contextual -dsimp
  refine s1 _ hh _ x b R r 8 _ hx1 hb hr (by omega) q2 fun h3 ho3 => ?_
  have l3 := zes (k := 8) hr
  try simp +contextual -dsimp
  refine s1 _ _ _ x b R _ 8 _ hx1 hb l3 (by omega) ho3 fun h4 ho4 => ?_
  have l4 := zes (k := 8) l3
  try simp +contextual -dsimp
  refine s1 _ _ _ x b R _ 8 _ hx1 hb l4 (by omega) ho4 fun h5 ho5 => ?_
  have ho6 := q1.join ho5
  try simp +contextual -dsimp
  refine ho6.push 0 rfl rfl (by omega) (by simp; omega) (by simp [maxLen]; omega) fun o' h7 ho7 _ => ?_
  have e4 : IntKind.i64.wrap (((t + 1 : Nat) : Int) - 1) = (t : Int) := by rw [wrap_i64 (by omega) (by omega)]; omega
  have hco := (ho7.slAt 0 rfl).zm
  simp -dsimp only [B.al_agg, V.setF_agg, V.zuk, hco, cond_true, List.length_set, List.length_cons, List.length_nil, List.set, zql, B.zi, if_true, show 6 < 0 + 1 + 1 + 1 + 1 + 1 + 1 + 1 by omega, V.zkq, e4]
  refine hY t _ _ (by omega) ⟨o', acc ++ [(rUse b r).1], (rUse b r).2, rfl, by omega, by simp; omega, rUse_le hr, ?_, e2, ?_⟩
  ·rw [<- e1, List.append_assoc]; rfl
  ·rw [List.map_append]; exact ho7
 ·have : (zdm (rUse b) t r) = ([], r) := by
   cases t with
   | zero => rfl
   | succ t => simp [zdm, h2 (by omega)]
  rw [this, List.append_nil] at e1
  rw [this] at e2
  subst e1
  rw [<- e2] at hk
  exact hk _ _ ho
theorem zbe.lots (s1 : zo.Spec C N) (s2 : ze5.Spec C N) {b : List UInt8} {x : AVal} {i2 : Nat} {p : AVal} {bs hh : za} {Q : zQ} {e i d : Int} {c : List UInt8} {s : UInt8} {z : Nat} {r1 : Rdr} (hx : zlb bs x b) (hz : z <= 65535) (hr1 : r1.at_ <= b.length)
  (ho : Owns bs hh [.box p [x, .int .i64 (r1.at_ : Int), .bool r1.bad]])
  (hk : ∀ o h', Owns bs h' [.sl 6 o ((zdm (rLot b) z r1).1.map Lot.cs) [], .box p [x, .int .i64 ((zdm (rLot b) z r1).2.at_ : Int), .bool (zdm (rLot b) z r1).2.bad]] ->
   C (N 71) [p, .int .i64 2] h' fun v54 h => zd (zbe.l3 C N Q (.ptr i2 0 0) p) [v54, .agg [.int .i64 e, .int .i64 i, .int .i64 d, .str c, .int .u8 (s.toNat : Int), o, .nils]] h) :
  zd (zbe.l5 C N Q (.ptr i2 0 0) p) [.int .i64 (z : Int), .agg [.int .i64 e, .int .i64 i, .int .i64 d, .str c, .int .u8 (s.toNat : Int), .nils, .nils]] hh := by
 obtain ⟨⟨R, hxx⟩, hb⟩ := hx
 refine zd.intro (fun t vs hh => ∃ (o : AVal) (acc : List Lot) (r : Rdr), vs = [.int .i64 (t : Int), .agg [.int .i64 e, .int .i64 i, .int .i64 d, .str c, .int .u8 (s.toNat : Int), o, .nils]] ∧ t <= 65535 ∧ acc.length + t <= 65535 ∧ r.at_ <= b.length ∧ acc ++ (zdm (rLot b) t r).1 = (zdm (rLot b) z r1).1 ∧ (zdm (rLot b) t r).2 = (zdm (rLot b) z r1).2 ∧
   Owns bs hh [.sl 6 o (acc.map Lot.cs) [], .box p [x, .int .i64 (r.at_ : Int), .bool r.bad]]) z ?_ ⟨.nils, [], r1, rfl, by omega, by simp; omega, hr1, rfl, rfl, (ho.nils 6).perm (List.Perm.swap ..)⟩
 rintro Y t vs hh ⟨o, acc, r, rfl, ht, hal, hr, e1, e2, ho⟩ hY
 obtain ⟨id, rfl, hbx⟩ := ho.zgr 1 rfl
 simp +contextual -dsimp [zd3 hbx]
 refine B.ze (fun h2 => ?_) (fun h2 => ?_) <;> simp at h2
 ·obtain ⟨t, rfl⟩ : ∃ u, t = u + 1 := ⟨t - 1, by omega⟩
  simp only [zdm, h2.2, Bool.false_eq_true, if_false] at e1 e2
  obtain ⟨q1, q2⟩ := ho.out (l1 := [_]) (l2 := [_])
  have hx1 := hxx.mono q1.le
  try simp +contextual -dsimp
  refine s2 _ hh _ x b R r _ hx1 hb hr q2 fun h5 ho5 => ?_
  have ho6 := q1.join ho5
  try simp +contextual -dsimp
  refine ho6.push 0 rfl rfl (by omega) (by simp; omega) (by simp [maxLen]; omega) fun o' h7 ho7 _ => ?_
  have e4 : IntKind.i64.wrap (((t + 1 : Nat) : Int) - 1) = (t : Int) := by rw [wrap_i64 (by omega) (by omega)]; omega
  have hco := (ho7.slAt 0 rfl).zm
  simp -dsimp only [B.al_agg, V.setF_agg, V.zuk, hco, cond_true, List.length_set, List.length_cons, List.length_nil, List.set, zql, B.zi, if_true, show 5 < 0 + 1 + 1 + 1 + 1 + 1 + 1 + 1 by omega, V.zkq, e4]
  refine hY t _ _ (by omega) ⟨o', acc ++ [(rLot b r).1], (rLot b r).2, rfl, by omega, by simp; omega, rLot_le hr, ?_, e2, ?_⟩
  ·rw [<- e1, List.append_assoc]; rfl
  ·rw [List.map_append]; exact ho7
 ·have : (zdm (rLot b) t r) = ([], r) := by
   cases t with
   | zero => rfl
   | succ t => simp [zdm, h2 (by omega)]
  rw [this, List.append_nil] at e1
  rw [this] at e2
  subst e1
  rw [<- e2] at hk
  exact hk _ _ ho
def zbe.Spec (C : CSem) (N : zN) : Prop := ∀ (x : AVal) (b : List UInt8) (h : za) (Q : zQ), zlb h x b ->
 (∀ x' y' h', Owns h h' [.sl 6 x' ((zdd b).1.Lots.map Lot.cs) [], .sl 3 y' ((zdd b).1.Uses.map Use.cs) []] -> Q (zdk.val (zdd b) x' y') h') -> C (N 41) [x] h Q
theorem zbe.spec (i : zbe.Imp C N) (s1 : zo.Spec C N) (s2 : zbt.Spec C N) (s3 : ze5.Spec C N) (s5 : zbk.Spec C N) : zbe.Spec C N := by
 intro x b h Q hx hq
 apply i
 rw [znw] at hq
 obtain ⟨⟨R, hxx⟩, hb⟩ := hx
 have hxc := hxx.zm
 try simp -dsimp [hxc]
 intro i2 hi2
 simp -dsimp [hxc]
 intro i9 hi9
 have o1 := (Owns.start h).zlr hi2 [.int .i64 0, .int .i64 0, .int .i64 0, .str [], .int .u8 0, .nils, .nils]
 have o2 := (Owns.start _).zlr hi9 [x, .int .i64 0, .bool false]
 simp only [List.nil_append] at o1 o2
 have hx1 := hxx.mono o1.le
 refine s1 _ _ (.ptr i9 0 0) x b R ⟨0, false⟩ 2 _ hx1 hb (by simp) (by omega) o2 fun h3 o3 => ?_
 have l3 := zes (b := b) (r := ⟨0, false⟩) (k := 2) (by simp)
 simp -dsimp
 refine B.ze (fun h4 => ?_) (fun h4 => ?_)
 ·rw [decide_eq_true_eq] at h4
  rw [show zgh b = zhe b (rNum b 2 ⟨0, false⟩).1 (rNum b 2 ⟨0, false⟩).2 by unfold zgh; rw [if_pos h4]] at hq
  generalize rNum b 2 ⟨0, false⟩ = g3 at *
  obtain ⟨e, r3⟩ := g3
  simp only at h4 l3 o3 hq ⊢
  try simp +contextual -dsimp
  refine s1 _ _ (.ptr i9 0 0) x b R r3 8 _ hx1 hb l3 (by omega) o3 fun h5 o5 => ?_
  have l5 := zes (k := 8) l3
  try simp +contextual -dsimp
  refine s1 _ _ (.ptr i9 0 0) x b R _ 2 _ hx1 hb l5 (by omega) o5 fun h6 o6 => ?_
  have l6 := zes (k := 2) l5
  obtain ⟨n1, n2⟩ := zmg b (rNum b 8 r3).2
  have ew : IntKind.i64.wrap ((rNum b 2 (rNum b 8 r3).2).1 - 1) = (rNum b 2 (rNum b 8 r3).2).1 - 1 := wrap_i64 (by omega) (by omega)
  simp +contextual -dsimp [ew]
  refine s2 _ _ (.ptr i9 0 0) x b R _ _ hx1 hb l6 o6 fun h7 o7 => ?_
  have l7 := zny l6
  try simp +contextual -dsimp
  refine s1 _ _ (.ptr i9 0 0) x b R _ 1 _ hx1 hb l7 (by omega) o7 fun h8 o8 => ?_
  have l8 := zes (k := 1) l7
  simp +contextual -dsimp [zld]
  refine s1 _ _ (.ptr i9 0 0) x b R _ 2 _ hx1 hb l8 (by omega) o8 fun h8 o8 => ?_
  have m1 := zmg b (rNum b 1 (zdy b (rNum b 2 (rNum b 8 r3).2).2).2).2
  have len1 := zjn (rLot b) (rNum b 2 (rNum b 1 (zdy b (rNum b 2 (rNum b 8 r3).2).2).2).2).1.toNat (rNum b 2 (rNum b 1 (zdy b (rNum b 2 (rNum b 8 r3).2).2).2).2).2
  have l9 := rList_le (one := rLot b) (fun r hr => rLot_le hr) (rNum b 2 (rNum b 1 (zdy b (rNum b 2 (rNum b 8 r3).2).2).2).2).1.toNat _ (zes (k := 2) l8)
  have z1 : ((rNum b 2 (rNum b 1 (zdy b (rNum b 2 (rNum b 8 r3).2).2).2).2).1.toNat : Int) = (rNum b 2 (rNum b 1 (zdy b (rNum b 2 (rNum b 8 r3).2).2).2).2).1 := Int.toNat_of_nonneg m1.1
  rw [<- z1]
  refine zbe.lots s1 s3 ⟨⟨R, hx1⟩, hb⟩ (by omega) (zes (k := 2) l8) o8 fun lx h9 o9 => ?_
  have hcx := (o9.slAt 0 rfl).zm
  obtain ⟨q1, q2⟩ := o9.out (l1 := [_]) (l2 := [_])
  have hx2 := hx1.mono q1.le
  refine s1 _ _ (.ptr i9 0 0) x b R _ 2 _ hx2 hb l9 (by omega) q2 fun h10 o10 => ?_
  have m2 := zmg b (zdm (rLot b) (rNum b 2 (rNum b 1 (zdy b (rNum b 2 (rNum b 8 r3).2).2).2).2).1.toNat (rNum b 2 (rNum b 1 (zdy b (rNum b 2 (rNum b 8 r3).2).2).2).2).2).2
  have len2 := zjn (rUse b) (rNum b 2 (zdm (rLot b) (rNum b 2 (rNum b 1 (zdy b (rNum b 2 (rNum b 8 r3).2).2).2).2).1.toNat (rNum b 2 (rNum b 1 (zdy b (rNum b 2 (rNum b 8 r3).2).2).2).2).2).2).1.toNat (rNum b 2 (zdm (rLot b) (rNum b 2 (rNum b 1 (zdy b (rNum b 2 (rNum b 8 r3).2).2).2).2).1.toNat (rNum b 2 (rNum b 1 (zdy b (rNum b 2 (rNum b 8 r3).2).2).2).2).2).2).2
  have z2 := Int.toNat_of_nonneg m2.1
  rw [<- z2]
  refine zbe.uses s1 ⟨⟨R, hx2⟩, hb⟩ hcx (by omega) (zes (k := 2) l9) o10 fun ly h11 o11 => ?_
  have oo := o1.join (q1.join o11)
  refine zbe.fin s5 (x := x) (cs2 := [.int .i64 0, .int .i64 0, .int .i64 0, .str [], .int .u8 0, .nils, .nils]) (t := (zhe b e r3).1) (r := (zhe b e r3).2) (oo.perm ?_) rfl (by simp only [zhe]; omega) (by simp only [zhe]; omega) hq
  exact List.Perm.cons _ (List.perm_append_comm (l₁ := [_, _]) (l₂ := [_]))
 ·rw [decide_eq_false_iff_not] at h4
  rw [show zgh b = (⟨(rNum b 2 ⟨0, false⟩).1, 0, 0, [], 0, [], []⟩, (rNum b 2 ⟨0, false⟩).2) by unfold zgh; rw [if_neg h4]] at hq
  exact zbe.fin s5 (t := ⟨(rNum b 2 ⟨0, false⟩).1, 0, 0, [], 0, [], []⟩) (((o1.join o3).nils 6).nils 3) rfl (by simp) (by simp) hq
end Go.Ab
namespace Go.Ab
variable {C : CSem} {N : zN}
def RwL (hb h0 h : za) (l : List Ob) (p : AVal) (b : List UInt8) (r : Rdr) : Prop := ∃ z R, SlX hb 1 z ((b.drop r.at_).map bc) R ∧ Owns h0 h (l ++ [.box p [z, .bool r.bad]]) ∧ hb.le h0 ∧ r.at_ <= b.length ∧ b.length < 4611686018427387904
section
variable {hb h0 h : za} {l : List Ob} {p : AVal} {b : List UInt8} {r : Rdr}
theorem zko {o : Ob} : (l ++ [o])[l.length]? = some o := by simp
theorem zvi {o o' : Ob} : (l ++ [o]).set l.length o' = l ++ [o'] := by simp
theorem RwL.ptr (s : RwL hb h0 h l p b r) : ∃ id, p = .ptr id 0 0 ∧ A.ldv h (.ptr id 0 1) = some (.bool r.bad) := by
 obtain ⟨z, R, hz, ho, _⟩ := s
 obtain ⟨id, rfl, hbx⟩ := ho.zgr l.length zko
 exact ⟨id, rfl, by simp [zd3 hbx]⟩
end
def zp.Spec (C : CSem) (N : zN) : Prop := ∀ (hb h0 h : za) (l : List Ob) (p : AVal) (b : List UInt8) (r : Rdr) (k : Nat) (Q : zQ), RwL hb h0 h l p b r -> k <= 8 ->
 (∀ h', RwL hb h0 h' l p b (rNum b k r).2 -> Q (.int .i64 (rNum b k r).1) h') -> C (N 432) [p, .int .i64 (k : Int)] h Q
theorem zp.spec (i : zp.Imp C N) : zp.Spec C N := by
 intro hb h0 h l p b r k Q hs hk hq
 apply i
 obtain ⟨z, R, hz, ho, hle, hr, hbl⟩ := hs
 obtain ⟨id, rfl, hbx⟩ := ho.zgr l.length zko
 have hz1 := hz.mono (za.le_trans hle ho.le)
 have hlz := hz1.zj
 rw [List.length_map, List.length_drop] at hlz
 simp +contextual -dsimp [zd3 hbx, hlz]
 refine ho.zm0 l.length zko rfl (by simp) fun h1 ho1 _ => ?_
 rw [zvi] at ho1
 obtain ⟨id', e, hbx1⟩ := ho1.zgr l.length zko
 cases e
 have hz2 := hz.mono (za.le_trans hle ho1.le)
 simp +contextual -dsimp [zd3 hbx1]
 refine B.ze (fun h2 => ?_) (fun h2 => ?_)
 ·have e1 : rNum b k r = (0, ⟨r.at_, true⟩) := by unfold rNum; rw [if_pos]; cases hbad : r.bad <;> simp [hbad] at h2 ⊢; omega
  rw [e1] at hq
  refine zk (hq _ ⟨z, R, hz, ?_, hle, hr, hbl⟩)
  simpa [h2] using ho1
 ·have hbad : r.bad = false := by cases hbad : r.bad <;> simp [hbad] at h2 ⊢
  have hlt : r.at_ + k <= b.length := by simp [hbad] at h2; omega
  have e1 : rNum b k r = (IntKind.i64.wrap (zg9 ((b.drop r.at_).take k)), ⟨r.at_ + k, false⟩) := by unfold rNum; rw [if_neg]; simp [hbad]; omega
  rw [e1] at hq
  obtain ⟨y, R', e2, e3, _⟩ := hz2.zh0 (by omega) (lo := 0) (hi := k) (a := none) (b := some (.int .i64 (k : Int))) (.inl ⟨rfl, rfl⟩) (.inr ⟨_, rfl⟩) (by omega) (by simp; omega)
  obtain ⟨w, R2, f2, f3, _⟩ := hz.zh0 (by omega) (lo := k) (hi := (b.drop r.at_).length) (a := some (.int .i64 (k : Int))) (b := none) (.inr ⟨_, rfl⟩) (.inl ⟨rfl, by simp⟩) (by simp; omega) (by simp)
  rw [List.drop_zero] at e3
  rw [List.take_length, List.drop_drop] at f3
  have hlz := e3.zj
  have hln : ((b.drop r.at_).take k).length = k := by simp; omega
  rw [List.length_map, hln] at hlz
  simp -dsimp only [zp.k4, B.zf9, V.zfy, B.zi, B.zii, zd3 hbx1, Nat.zero_add, List.getElem?_cons_zero, List.set, List.getElem?_cons_succ, e2, hlz]
  refine zd.intro (fun n vs hh => ∃ j : Nat, j + n = k ∧ vs = [.int .i64 (IntKind.i64.wrap (zg9 (((b.drop r.at_).take k).take j))), .int .i64 j] ∧ hh = h1) k ?_ ⟨0, by simp, by simp [zg9]; rfl, rfl⟩
  rintro Y n vs hh ⟨j, hn, rfl, rfl⟩ hY
  simp +contextual -dsimp
  refine B.ze (fun h3 => ?_) (fun h3 => ?_) <;> simp at h3
  ·obtain ⟨c, hc⟩ := zdz (L := (b.drop r.at_).take k) (k := j) (by omega)
   have hj : j < (((b.drop r.at_).take k).map bc).length := by rw [List.length_map]; omega
   have hcl := u8_lt c
   have ec : IntKind.i64.wrap (c.toNat : Int) = c.toNat := wrap_i64 (by omega) (by omega)
   have e5 := e3.cell (get_map hc)
   have e6 : bS.c c = .int .u8 c.toNat := rfl
   simp +contextual -dsimp [e3.idxN hj, e5, e6, bin_shl (k := .i64) (j := .u64) (b := 8) (by omega) (by simp [IntKind.bits]), ec]
   rw [or_add _ _ (by omega) (by omega)]
   simp +contextual -dsimp [zf8 (n := j) (by omega)]
   refine hY (n - 1) _ _ (by omega) ⟨j + 1, by omega, ?_, rfl⟩
   rw [take_succ hc, zn9, wrap_wrap]
   simp
  ·have hjk : j = k := by omega
   subst hjk
   rw [List.take_take, Nat.min_self]
   simp -dsimp only [zp.k1, B.zf9, V.zfy, B.zi, B.zii, zd3 hbx1, Nat.zero_add, List.getElem?_cons_zero, List.set, List.getElem?_cons_succ, f2]
   refine ho1.zm0 l.length zko f3.zm (by simp) fun h4 ho4 _ => zk (hq _ ⟨w, R2, f3, ?_, hle, by simp only; omega, hbl⟩)
   rw [zvi] at ho4
   simpa [h2] using ho4
def zb3.Spec (C : CSem) (N : zN) : Prop := ∀ (hb h0 h : za) (l : List Ob) (p : AVal) (b : List UInt8) (r : Rdr) (Q : zQ), RwL hb h0 h l p b r ->
 (∀ h', RwL hb h0 h' l p b (zdy b r).2 -> Q (.str (zdy b r).1) h') -> C (N 440) [p] h Q
theorem zb3.spec (i : zb3.Imp C N) (s1 : zf5.Spec C N) : zb3.Spec C N := by
 intro hb h0 h l p b r Q hs hq
 apply i
 obtain ⟨z, R, hz, ho, hle, hr, hbl⟩ := hs
 obtain ⟨id, rfl, hbx⟩ := ho.zgr l.length zko
 simp +contextual -dsimp [zd3 hbx]
 refine B.ze (fun h2 => ?_) (fun h2 => ?_)
 ·rw [show zdy b r = ([], r) by simp [zdy, h2]] at hq
  exact zk (hq _ ⟨z, R, hz, ho, hle, hr, hbl⟩)
 ·rw [show zdy b r = ((ze2 (b.drop r.at_)).1, ⟨r.at_ + (ze2 (b.drop r.at_)).2.1, !(ze2 (b.drop r.at_)).2.2⟩) by simp [zdy, h2]] at hq
  have hcl := zn7 (b.drop r.at_)
  simp +contextual -dsimp [zd3 hbx]
  refine s1 z _ _ _ _ (hz.mono (za.le_trans hle ho.le)) (by simp; omega) ?_
  simp +contextual -dsimp
  refine ho.zm0 l.length zko rfl (by simp) fun h1 ho1 _ => ?_
  rw [zvi] at ho1
  obtain ⟨id', e, hbx1⟩ := ho1.zgr l.length zko
  cases e
  obtain ⟨w, R2, f2, f3, _⟩ := hz.zh0 (by omega) (lo := (ze2 (b.drop r.at_)).2.1) (hi := (b.drop r.at_).length) (a := some (.int .i64 ((ze2 (b.drop r.at_)).2.1 : Int))) (b := none) (.inr ⟨_, rfl⟩) (.inl ⟨rfl, by simp⟩) hcl (by simp)
  rw [List.take_length, List.drop_drop] at f3
  rw [List.length_drop] at hcl
  simp -dsimp only [B.zf9, V.zfy, B.zi, B.zii, zd3 hbx1, Nat.zero_add, List.getElem?_cons_zero, List.getElem?_cons_succ, List.set, f2]
  refine ho1.zm0 l.length zko f3.zm (by simp) fun h4 ho4 _ => zk (hq _ ⟨w, R2, f3, ?_, hle, by simp only; omega, hbl⟩)
  rw [zvi] at ho4
  exact ho4
end Go.Ab
namespace Go.Ab
theorem be_congr {n m : Int} (h : n % 18446744073709551616 = m % 18446744073709551616) : ∀ k, k <= 8 -> be n k = be m k
 | 0, _ => rfl
 | k + 1, hk => by
  rw [be, be, be_congr h k (by omega)]
  congr 1
  refine zru ?_
  rw [<- zt0 n k (by omega), <- zt0 m k (by omega), h]
theorem zw4 (c : UInt8) (l : List UInt8) : zg9 (c :: l) = 256 ^ l.length * c.toNat + zg9 l := by
 have gen : ∀ (l : List UInt8) (a : Nat), l.foldl (fun n c => 256 * n + c.toNat) a = 256 ^ l.length * a + zg9 l := by
  intro l
  induction l with
  | nil => intro a; simp [zg9]
  | cons d r ih =>
   intro a
   simp only [List.foldl_cons, List.length_cons]
   rw [ih]
   have h2 : zg9 (d :: r) = 256 ^ r.length * d.toNat + zg9 r := by
    show List.foldl (fun n c => 256 * n + c.toNat) (256 * 0 + d.toNat) r = _
    rw [ih]; simp
   rw [h2, Nat.pow_succ, Nat.mul_add]
   have : 256 ^ r.length * (256 * a) = 256 ^ r.length * 256 * a := by rw [Nat.mul_assoc]
   omega
 show List.foldl (fun n c => 256 * n + c.toNat) (256 * 0 + c.toNat) l = _
 rw [gen]; simp
theorem zs6 : ∀ (w : List UInt8), be (zg9 w : Nat) w.length = w
 | [] => rfl
 | c :: w => by
  have hw := zt1 w.length w rfl
  have hc := u8_lt c
  have ih := zs6 w
  have h256 : (2 : Int) ^ (8 * w.length) = ((256 ^ w.length : Nat) : Int) := by
   rw [Int.pow_mul]; simp
  have key : ∀ k, k <= w.length -> be ((zg9 (c :: w) : Nat) : Int) k = be ((zg9 w : Nat) : Int) k := by
   intro k
   induction k with
   | zero => intro _; rfl
   | succ k ihk =>
    intro hk
    rw [be, be, ihk (by omega)]
    congr 1
    refine zru ?_
    have e1 : (2 : Int) ^ (8 * k) = ((256 ^ k : Nat) : Int) := by rw [Int.pow_mul]; simp
    rw [e1, Int.fdiv_eq_ediv_of_nonneg _ (Int.natCast_nonneg _), Int.fdiv_eq_ediv_of_nonneg _ (Int.natCast_nonneg _), zw4]
    have e2 : 256 ^ w.length = 256 ^ k * (256 * 256 ^ (w.length - (k + 1))) := by
     rw [<- Nat.mul_assoc, Nat.mul_comm (256 ^ k) 256, <- Nat.pow_succ', <- Nat.pow_add]; congr 1; omega
    have e3 : 256 ^ w.length * c.toNat + zg9 w = zg9 w + 256 ^ k * (256 * (256 ^ (w.length - (k + 1)) * c.toNat)) := by
     rw [e2, Nat.mul_assoc, Nat.mul_assoc]; omega
    have hpos : 0 < 256 ^ k := Nat.pow_pos (by omega)
    have e4 : ((256 ^ w.length * c.toNat + zg9 w) / 256 ^ k : Nat) = zg9 w / 256 ^ k + 256 * (256 ^ (w.length - (k + 1)) * c.toNat) := by
     rw [e3, Nat.add_mul_div_left _ _ hpos]
    have e5 : (((256 ^ w.length * c.toNat + zg9 w : Nat) : Int)) / ((256 ^ k : Nat) : Int) = (((256 ^ w.length * c.toNat + zg9 w) / 256 ^ k : Nat) : Int) := by rw [Int.natCast_ediv]
    have e6 : ((zg9 w : Nat) : Int) / ((256 ^ k : Nat) : Int) = ((zg9 w / 256 ^ k : Nat) : Int) := by rw [Int.natCast_ediv]
    rw [e5, e6, e4]
    omega
  rw [List.length_cons, be, key w.length (Nat.le_refl _), ih]
  congr 1
  rw [h256, Int.fdiv_eq_ediv_of_nonneg _ (Int.natCast_nonneg _), zw4]
  have hpos : 0 < 256 ^ w.length := Nat.pow_pos (by omega)
  have e1 : ((256 ^ w.length * c.toNat + zg9 w) / 256 ^ w.length : Nat) = c.toNat := by
   rw [Nat.add_comm, Nat.add_mul_div_left _ _ hpos, Nat.div_eq_of_lt hw]; omega
  have e2 : (((256 ^ w.length * c.toNat + zg9 w : Nat) : Int)) / ((256 ^ w.length : Nat) : Int) = ((c.toNat : Nat) : Int) := by rw [<- Int.natCast_ediv, e1]
  rw [e2]
  apply UInt8.toNat_inj.1
  have := byt_nat (c.toNat : Int)
  omega
theorem be_back {w : List UInt8} (hw : w.length <= 8) : be (IntKind.i64.wrap (zg9 w)) w.length = w := by
 rw [be_congr (m := (zg9 w : Nat)) (by rw [IntKind.wrap_i64]; omega) _ hw]
 exact zs6 w
theorem be_one (n : Int) : be n 1 = [byt n] := by
 show [byt (n.fdiv (2 ^ (8 * 0)))] = _
 rw [show (2 : Int) ^ (8 * 0) = 1 from rfl, Int.fdiv_one]
section
variable {b post : List UInt8} {a : Nat}
end
structure Got (b : List UInt8) (r r' : Rdr) (w : List UInt8) : Prop where
 drop : b.drop r.at_ = w ++ b.drop r'.at_
 at_ : r'.at_ = r.at_ + w.length
 le : r'.at_ <= b.length
 ok : r.bad = false
theorem Got.seq {b : List UInt8} {r r1 r2 : Rdr} {w w1 : List UInt8} (h : Got b r r1 w) (k : Got b r1 r2 w1) : Got b r r2 (w ++ w1) :=
 ⟨by rw [h.drop, k.drop, List.append_assoc], by rw [k.at_, h.at_, List.length_append]; omega, k.le, h.ok⟩
theorem Got.take {b : List UInt8} {r' : Rdr} {w : List UInt8} (g : Got b ⟨0, false⟩ r' w) : b.take r'.at_ = w := by
 have ha := g.at_
 simp only [Nat.zero_add] at ha
 have hd : b = w ++ b.drop r'.at_ := g.drop
 have := congrArg (List.take w.length) hd
 rw [List.take_left] at this
 rw [ha]; exact this
theorem ziu {b : List UInt8} {k : Nat} {r : Rdr} (h : r.bad = true) : (rNum b k r).2.bad = true := by
 unfold rNum; rw [if_pos (.inl h)]
theorem inI64_wrap (n : Int) : zu8 (IntKind.i64.wrap n) := by
 unfold zu8; rw [IntKind.wrap_i64]; omega
theorem zg3 {b : List UInt8} {k : Nat} {r : Rdr} (hk : k <= 8) (h : (rNum b k r).2.bad = false) (hle : r.at_ <= b.length) : Got b r (rNum b k r).2 (be (rNum b k r).1 k) ∧ zu8 (rNum b k r).1 := by
 unfold rNum at h ⊢
 split at h
 ·cases h
 ·rename_i hh
  rw [if_neg hh]
  simp only [not_or] at hh
  have hl : ((b.drop r.at_).take k).length = k := by simp; omega
  have hb := be_back (w := (b.drop r.at_).take k) (by omega)
  rw [hl] at hb
  refine ⟨⟨?_, ?_, ?_, by simpa using hh.1⟩, inI64_wrap _⟩
  ·simp only
   rw [hb, <- List.drop_drop, List.take_append_drop]
  ·simp only [zfh]
  ·simp only; omega
theorem rNum_1 (b : List UInt8) (r : Rdr) : 0 <= (rNum b 1 r).1 ∧ (rNum b 1 r).1 <= 255 := by
 unfold rNum
 split
 ·simp
 ·rename_i h
  simp only [not_or] at h
  have := zt1 1 ((b.drop r.at_).take 1) (by simp; omega)
  rw [wrap_i64 (by omega) (by omega)]
  omega
theorem zui {b : List UInt8} {r : Rdr} (h : r.bad = true) : (zdy b r).2.bad = true := by
 unfold zdy; rw [if_pos h]; exact h
theorem rCode_got {b : List UInt8} {r : Rdr} (h : (zdy b r).2.bad = false) (hle : r.at_ <= b.length) : Got b r (zdy b r).2 (zeo (zdy b r).1) ∧ ((zdy b r).1 = [] ∨ zcc (zdy b r).1 = true) := by
 have hl := zny (b := b) (r := r) hle
 cases hb : r.bad with
 | true => rw [zui hb] at h; cases h
 | false =>
  have e : zdy b r = ((ze2 (b.drop r.at_)).1, ⟨r.at_ + (ze2 (b.drop r.at_)).2.1, !(ze2 (b.drop r.at_)).2.2⟩) := by simp [zdy, hb]
  rw [e] at h hl ⊢
  simp only [Bool.not_eq_eq_eq_not, Bool.not_false] at h hl ⊢
  cases hd : b.drop r.at_ with
  | nil => rw [hd] at h; cases h
  | cons c q =>
   rw [hd, zgo] at h hl
   rw [zgo]
   split at h
   ·cases h
   ·rename_i hh
    rw [if_neg hh] at hl ⊢
    simp only [not_or, not_and, Bool.not_eq_false] at hh
    have hlen : (q.take c.toNat).length = c.toNat := by simp; omega
    have hs : q.take c.toNat = [] ∨ zcc (q.take c.toNat) = true := by
     by_cases hn : q.take c.toNat = []
     ·exact .inl hn
     ·exact .inr (hh.2 hn)
    have hp : zeo (q.take c.toNat) = c :: q.take c.toNat := by
     have : UInt8.ofNat (q.take c.toNat).length = c := by rw [hlen]; simp
     rcases hs with hs | hs
     ·rw [hs] at this ⊢; rw [<- this]; rfl
     ·have := znl (s := q.take c.toNat) (by rw [hs]; simp)
      rw [this.1]; congr 1
    refine ⟨⟨?_, ?_, hl, hb⟩, hs⟩
    ·simp only
     rw [hp, <- List.drop_drop, hd, Nat.add_comm 1, List.drop_succ_cons, List.cons_append, List.take_append_drop]
    ·simp only; rw [hp, List.length_cons, hlen]; omega
theorem zh1 {p q : Bool} (h : p = true -> q = true) (hq : q = false) : p = false := by cases p with
 | false => rfl
 | true => rw [h rfl] at hq; cases hq
theorem rLot_got {b : List UInt8} {r : Rdr} (h : (rLot b r).2.bad = false) (hle : r.at_ <= b.length) : Got b r (rLot b r).2 (zi1 (rLot b r).1) ∧ (rLot b r).1.ok := by
 simp only [rLot, Bool.or_eq_false_iff, decide_eq_false_iff_not] at h
 obtain ⟨h6, h7⟩ := h
 have h5 := zh1 ziu h6
 have h4 := zh1 ziu h5
 have h3 := zh1 ziu h4
 have h2 := zh1 ziu h3
 have h1 := zh1 zui h2
 obtain ⟨g1, i1⟩ := zg3 (by omega) h1 hle
 obtain ⟨g2, _⟩ := rCode_got h2 g1.le
 obtain ⟨g3, _⟩ := zg3 (by omega) h3 g2.le
 obtain ⟨g4, _⟩ := zg3 (by omega) h4 g3.le
 obtain ⟨g5, i5⟩ := zg3 (by omega) h5 g4.le
 obtain ⟨g6, _⟩ := zg3 (by omega) h6 g5.le
 have hr := rNum_1 b (rNum b 8 (rNum b 2 (rNum b 2 (zdy b (rNum b 8 r).2).2).2).2).2
 refine ⟨?_, i1, i5⟩
 have g := ((((g1.seq g2).seq g3).seq g4).seq g5).seq g6
 have e : be (rNum b 1 (rNum b 8 (rNum b 2 (rNum b 2 (zdy b (rNum b 8 r).2).2).2).2).2).1 1 = be (bif decide ((rNum b 1 (rNum b 8 (rNum b 2 (rNum b 2 (zdy b (rNum b 8 r).2).2).2).2).2).1 = 1) then 1 else 0) 1 := by
  generalize rNum b 1 (rNum b 8 (rNum b 2 (rNum b 2 (zdy b (rNum b 8 r).2).2).2).2).2 = e at *
  by_cases h1 : e.1 = 1
  ·rw [h1]; rfl
  ·have : e.1 = 0 := by omega
   rw [this]; rfl
 rw [e] at g
 refine ⟨g.drop, g.at_, g.le, g.ok⟩
theorem rUse_got {b : List UInt8} {r : Rdr} (h : (rUse b r).2.bad = false) (hle : r.at_ <= b.length) : Got b r (rUse b r).2 (zj1 (rUse b r).1) ∧ (rUse b r).1.ok := by
 simp only [rUse] at h
 have h2 := zh1 ziu h
 have h1 := zh1 ziu h2
 obtain ⟨g1, i1⟩ := zg3 (by omega) h1 hle
 obtain ⟨g2, i2⟩ := zg3 (by omega) h2 g1.le
 obtain ⟨g3, i3⟩ := zg3 (by omega) h g2.le
 exact ⟨(g1.seq g2).seq g3, i1, i2, i3⟩
theorem zuh {T : Type} {one : Rdr -> T × Rdr} : ∀ (n : Nat) {r : Rdr}, r.bad = true -> (zdm one n r).2.bad = true
 | 0, _, h => h
 | n + 1, _, h => by rw [zdm, if_pos h]; exact h
theorem zug {T : Type} {one : Rdr -> T × Rdr} {f : T -> List UInt8} {P : T -> Prop} {b : List UInt8} (h1 : ∀ r : Rdr, (one r).2.bad = false -> r.at_ <= b.length -> Got b r (one r).2 (f (one r).1) ∧ P (one r).1) : ∀ (n : Nat) (r : Rdr), (zdm one n r).2.bad = false -> r.at_ <= b.length ->
  Got b r (zdm one n r).2 ((zdm one n r).1.flatMap f) ∧ (zdm one n r).1.length = n ∧ ∀ x ∈ (zdm one n r).1, P x
 | 0, r, h, hle => ⟨⟨by simp [zdm], by simp [zdm], hle, h⟩, rfl, by simp [zdm]⟩
 | n + 1, r, h, hle => by
  by_cases hb : r.bad = true
  ·rw [zdm, if_pos hb] at h; rw [hb] at h; cases h
  ·rw [zdm, if_neg hb] at h ⊢
   simp only at h ⊢
   have h2 := zh1 (zuh n) h
   obtain ⟨g1, p1⟩ := h1 r h2 hle
   obtain ⟨g2, l2, p2⟩ := zug h1 n _ h g1.le
   refine ⟨?_, by simp [l2], fun x hx => ?_⟩
   ·rw [List.flatMap_cons]; exact g1.seq g2
   ·rcases List.mem_cons.1 hx with rfl | hx
    ·exact p1
    ·exact p2 x hx
theorem zv7 {b : List UInt8} (h : (zdd b).2.2 = 0) : zem (zdd b).1 = true ∧ (zdd b).1.ok ∧ zdc (zdd b).1 = (b.take (zdd b).2.1, 0) ∧ (zdd b).2.1 <= b.length ∧ 2 <= (zdd b).2.1 := by
 rw [znw] at h ⊢
 unfold zg2 at h ⊢
 split at h
 ·cases h
 ·rename_i hh
  rw [if_neg hh]
  simp only [Bool.or_eq_true, not_or, Bool.not_eq_true, Bool.not_eq_false', Bool.not_eq_eq_eq_not, Bool.not_true, Bool.not_false] at hh
  obtain ⟨hbad, hr⟩ := hh
  have hr : zem (zgh b).1 = true := by simpa using hr
  refine ⟨hr, ?_⟩
  simp only
  unfold zgh at hbad hr ⊢
  split at hbad
  ·rename_i he
   rw [if_pos he] at hr ⊢
   simp only [zhe] at hbad hr ⊢
   have n8 := zh1 (zuh _) hbad
   have n7 := zh1 ziu n8
   have n6 := zh1 (zuh _) n7
   have n5 := zh1 ziu n6
   have n4 := zh1 ziu n5
   have n3 := zh1 zui n4
   have n2 := zh1 ziu n3
   have n1 := zh1 ziu n2
   obtain ⟨g1, _⟩ := zg3 (by omega) n1 (Nat.zero_le _)
   obtain ⟨g2, i2⟩ := zg3 (by omega) n2 g1.le
   obtain ⟨g3, _⟩ := zg3 (by omega) n3 g2.le
   obtain ⟨g4, _⟩ := rCode_got n4 g3.le
   obtain ⟨g5, _⟩ := zg3 (by omega) n5 g4.le
   obtain ⟨g6, _⟩ := zg3 (by omega) n6 g5.le
   obtain ⟨g7, l7, p7⟩ := zug (P := Lot.ok) (fun r h1 h2 => rLot_got h1 h2) _ _ n7 g6.le
   obtain ⟨g8, _⟩ := zg3 (by omega) n8 g7.le
   obtain ⟨g9, l9, p9⟩ := zug (P := Use.ok) (fun r h1 h2 => rUse_got h1 h2) _ _ hbad g8.le
   refine ⟨⟨i2, p7, p9⟩, ?_⟩
   have m6 := zmg b (rNum b 1 (zdy b (rNum b 2 (rNum b 8 (rNum b 2 ⟨0, false⟩).2).2).2).2).2
   have m8 := zmg b (zdm (rLot b) (rNum b 2 (rNum b 1 (zdy b (rNum b 2 (rNum b 8 (rNum b 2 ⟨0, false⟩).2).2).2).2).2).1.toNat (rNum b 2 (rNum b 1 (zdy b (rNum b 2 (rNum b 8 (rNum b 2 ⟨0, false⟩).2).2).2).2).2).2).2
   have g := (((((((g1.seq g2).seq g3).seq g4).seq g5).seq g6).seq g7).seq g8).seq g9
   generalize hR : zdm (rUse b) (rNum b 2 (zdm (rLot b) (rNum b 2 (rNum b 1 (zdy b (rNum b 2 (rNum b 8 (rNum b 2 ⟨0, false⟩).2).2).2).2).2).1.toNat (rNum b 2 (rNum b 1 (zdy b (rNum b 2 (rNum b 8 (rNum b 2 ⟨0, false⟩).2).2).2).2).2).2).2).1.toNat (rNum b 2 (zdm (rLot b) (rNum b 2 (rNum b 1 (zdy b (rNum b 2 (rNum b 8 (rNum b 2 ⟨0, false⟩).2).2).2).2).2).1.toNat (rNum b 2 (rNum b 1 (zdy b (rNum b 2 (rNum b 8 (rNum b 2 ⟨0, false⟩).2).2).2).2).2).2).2).2 = R at *
   generalize hL : zdm (rLot b) (rNum b 2 (rNum b 1 (zdy b (rNum b 2 (rNum b 8 (rNum b 2 ⟨0, false⟩).2).2).2).2).2).1.toNat (rNum b 2 (rNum b 1 (zdy b (rNum b 2 (rNum b 8 (rNum b 2 ⟨0, false⟩).2).2).2).2).2).2 = L at *
   have e1 : (L.1.length : Int) = (rNum b 2 (rNum b 1 (zdy b (rNum b 2 (rNum b 8 (rNum b 2 ⟨0, false⟩).2).2).2).2).2).1 := by rw [l7]; omega
   have e2 : (R.1.length : Int) = (rNum b 2 L.2).1 := by rw [l9]; omega
   have hput : zdc ⟨(rNum b 2 ⟨0, false⟩).1, (rNum b 8 (rNum b 2 ⟨0, false⟩).2).1, (rNum b 2 (rNum b 8 (rNum b 2 ⟨0, false⟩).2).2).1 - 1, (zdy b (rNum b 2 (rNum b 8 (rNum b 2 ⟨0, false⟩).2).2).2).1, byt (rNum b 1 (zdy b (rNum b 2 (rNum b 8 (rNum b 2 ⟨0, false⟩).2).2).2).2).1, L.1, R.1⟩ = (b.take R.2.at_, 0) := by
    unfold zdc
    rw [if_neg (by rw [hr]; simp), if_neg (by simp only; omega)]
    simp only [zka, e1, e2, <- be_one, Int.sub_add_cancel]
    rw [g.take]
   refine ⟨hput, g.le, ?_⟩
   have ha := g.at_
   simp only [List.length_append, zfh] at ha
   omega
  ·rename_i he
   rw [if_neg he] at hr ⊢
   obtain ⟨g1, i1⟩ := zg3 (by omega) hbad (Nat.zero_le _)
   refine ⟨⟨by simp [zu8], by simp, by simp⟩, ?_⟩
   have f := zis hr
   simp only at f
   have hput : zdc ⟨(rNum b 2 ⟨0, false⟩).1, 0, 0, [], 0, [], []⟩ = (b.take (rNum b 2 ⟨0, false⟩).2.at_, 0) := by
    unfold zdc
    rw [if_neg (by rw [hr]; simp), if_pos (by simp only; omega)]
    rw [g1.take]
   refine ⟨hput, g1.le, ?_⟩
   have ha := g1.at_
   simp only [zfh, Nat.zero_add] at ha ⊢
   omega
end Go.Ab
namespace Go.Ab
variable {C : CSem} {N : zN}
def rPart (b : List UInt8) (r : Rdr) : Part × Rdr :=
 let c := zdy b r
 let q := rNum b 4 c.2
 (⟨c.1, q.1⟩, q.2)
def zr9 (b c : List UInt8) (r : Rdr) : Itm × Rdr :=
 let f := rNum b 2 r
 let n := rNum b 1 f.2
 let ps := zdm (rPart b) n.1.toNat n.2
 let m := rNum b 1 ps.2
 let os := zdm (zdy b) m.1.toNat m.2
 (⟨c, f.1, ps.1, os.1⟩, os.2)
def zuf (b : List UInt8) (id : Int) (r : Rdr) : Lot × Rdr :=
 let c := zdy b r
 let f := rNum b 2 c.2
 let u := rNum b 2 f.2
 let q := rNum b 4 u.2
 let e := rNum b 1 q.2
 (⟨id, c.1, f.1, u.1, q.1, decide (e.1 = 1)⟩, e.2)
def zqz (b : List UInt8) (id : Int) (r : Rdr) : Line × Rdr :=
 let c := zdy b r
 let q := rNum b 4 c.2
 let a := rNum b 2 q.2
 let k := rNum b 1 a.2
 let s := rNum b 1 k.2
 let d := rNum b 2 s.2
 let o := zdy b d.2
 (⟨id, c.1, q.1, a.1, k.1, byt s.1, IntKind.i64.wrap (d.1 - 1), o.1⟩, o.2)
theorem zq0 {T : Type} {one : Rdr -> T × Rdr} {t : Nat} {r : Rdr} (h : 0 < t -> r.bad = true) : zdm one t r = ([], r) := by
 cases t with
 | zero => rfl
 | succ t => simp [zdm, h (by omega)]
def zz.Spec (C : CSem) (N : zN) : Prop := ∀ (hb h0 h : za) (p : AVal) (b c : List UInt8) (r : Rdr) (Q : zQ), RwL hb h0 h [] p b r ->
 (∀ a h', RwL hb h0 h' (zh2.obs false (zr9 b c r).1 a) p b (zr9 b c r).2 -> Q (.agg (zh2.cells (zr9 b c r).1 a)) h') -> C (N 433) [p, .str c] h Q
theorem RwL.push {hb h0 h : za} {l : List Ob} {p : AVal} {b : List UInt8} {r : Rdr} {es bytes k : Nat} {x : AVal} {L : List (List AVal)} {cs : List AVal} {K : zQ} (s : RwL hb h0 h l p b r) (hk : l[k]? = some (.sl es x L [])) (hcs : cs.length = es) (hes : 0 < es) (hbm : (L.length + 1) * bytes <= 140737488355328) (hm : L.length + 1 <= maxLen)
  (hK : ∀ x' h', RwL hb h0 h' (l.set k (.sl es x' (L ++ [cs]) [])) p b r -> K x' h') : B.newO h (some cs) fun id h => B.appW h es bytes x (.sl id 0 0 1 es 1) K := by
 obtain ⟨z, R, hz, ho, hle⟩ := s
 have hl : k < l.length := (List.getElem?_eq_some_iff.1 hk).1
 have hk' : (l ++ [.box p [z, .bool r.bad]])[k]? = some (.sl es x L []) := by rw [List.getElem?_append_left hl]; exact hk
 refine ho.push k hk' hcs hes hbm hm fun x' h' o1 _ => hK x' h' ⟨z, R, hz, ?_, hle⟩
 rw [List.set_append_left _ _ hl] at o1
 exact o1
theorem zz.spec (i : zz.Imp C N) (s1 : zp.Spec C N) (s2 : zb3.Spec C N) : zz.Spec C N := by
 intro hb h0 h p b c r Q hs hq
 apply i
 try simp -dsimp only [zz.cps, zz.k5]
 refine s1 hb h0 h [] p b r 2 _ hs (by omega) fun h1 hs1 => ?_
 simp +contextual -dsimp
 refine s1 hb h0 h1 [] p b _ 1 _ hs1 (by omega) fun h2 hs2 => ?_
 have n2 := rNum_1 b (rNum b 2 r).2
 unfold zr9 at hq
 generalize rNum b 2 r = f at *
 obtain ⟨life, r1⟩ := f
 simp only at n2 hs1 hs2 hq ⊢
 generalize rNum b 1 r1 = g at *
 obtain ⟨n, r2⟩ := g
 simp only at n2 hs2 hq ⊢
 have hs3 : RwL hb h0 h2 [.sl 2 .nils [] []] p b r2 := by
  obtain ⟨z, R, hz, ho, hle⟩ := hs2
  exact ⟨z, R, hz, (ho.nils 2).perm (List.Perm.swap ..), hle⟩
 refine zd.intro (fun t vs hh => ∃ (x : AVal) (acc : List Part) (r : Rdr), vs = [.int .i64 (t : Int), .agg [.str c, .int .i64 life, x, .nils]] ∧ acc.length + t <= 255 ∧ acc ++ (zdm (rPart b) t r).1 = (zdm (rPart b) n.toNat r2).1 ∧ (zdm (rPart b) t r).2 = (zdm (rPart b) n.toNat r2).2 ∧ RwL hb h0 hh [.sl 2 x (acc.map Part.cs) []] p b r) n.toNat ?_
  ⟨.nils, [], r2, by rw [Int.toNat_of_nonneg n2.1], by simp; omega, rfl, rfl, hs3⟩
 rintro Y t vs hh ⟨x, acc, r, rfl, hal, e1, e2, hs⟩ hY
 obtain ⟨id, rfl, hbad⟩ := hs.ptr
 simp +contextual -dsimp [hbad]
 refine B.ze (fun hc => ?_) (fun hc => ?_) <;> simp at hc
 ·obtain ⟨t, rfl⟩ : ∃ u, t = u + 1 := ⟨t - 1, by omega⟩
  simp only [zdm, hc.2, Bool.false_eq_true, if_false] at e1 e2
  refine s2 hb h0 hh _ _ b r _ hs fun h3 hs3 => ?_
  simp +contextual -dsimp
  refine s1 hb h0 h3 _ _ b _ 4 _ hs3 (by omega) fun h4 hs4 => ?_
  simp +contextual -dsimp
  refine hs4.push (k := 0) rfl rfl (by omega) (by simp; omega) (by simp [maxLen]; omega) fun x' h5 hs5 => ?_
  have e4 : IntKind.i64.wrap (t : Int) = (t : Int) := by rw [wrap_i64 (by omega) (by omega)]
  have c5 : x'.zm = true := by
   obtain ⟨z, R, hz, ho, hle⟩ := hs5
   exact (ho.slAt 0 rfl).zm
  simp +contextual -dsimp [e4, c5]
  refine hY t _ _ (by omega) ⟨x', acc ++ [(rPart b r).1], (rPart b r).2, rfl, by simp; omega, ?_, e2, ?_⟩
  ·rw [<- e1, List.append_assoc]; rfl
  ·rw [List.map_append]; exact hs5
 ·rw [zq0 (by simpa using hc), List.append_nil] at e1
  rw [zq0 (by simpa using hc)] at e2
  simp only at e2
  subst e1
  rw [<- e2] at hq
  refine s1 hb h0 hh _ _ b r 1 _ hs (by omega) fun h3 hs3 => ?_
  have n3 := rNum_1 b r
  generalize hps : (zdm (rPart b) n.toNat r2).1 = ps at *
  generalize rNum b 1 r = g at *
  obtain ⟨m, r3⟩ := g
  simp only at n3 hs3 hq ⊢
  have hs4 : RwL hb h0 h3 [.sl 2 x (ps.map Part.cs) [], .sl 1 .nils [] []] (.ptr id 0 0) b r3 := by
   obtain ⟨z, R, hz, ho, hle⟩ := hs3
   exact ⟨z, R, hz, (ho.nils 1).perm (.cons _ (List.Perm.swap ..)), hle⟩
  refine zd.intro (fun t vs hh => ∃ (y : AVal) (acc : List (List UInt8)) (r : Rdr), vs = [.int .i64 (t : Int), .agg [.str c, .int .i64 life, x, y]] ∧ acc.length + t <= 255 ∧ acc ++ (zdm (zdy b) t r).1 = (zdm (zdy b) m.toNat r3).1 ∧ (zdm (zdy b) t r).2 = (zdm (zdy b) m.toNat r3).2 ∧ RwL hb h0 hh [.sl 2 x (ps.map Part.cs) [], .sl 1 y (acc.map tc) []] (.ptr id 0 0) b r) m.toNat ?_
   ⟨.nils, [], r3, by rw [Int.toNat_of_nonneg n3.1], by simp; omega, rfl, rfl, hs4⟩
  rintro Z t2 vs h4 ⟨y, acc, r', rfl, hal2, e3, e4, hs5⟩ hZ
  obtain ⟨id', e, hbad⟩ := hs5.ptr
  cases e
  simp +contextual -dsimp [hbad]
  refine B.ze (fun hd => ?_) (fun hd => ?_) <;> simp at hd
  ·obtain ⟨t2, rfl⟩ : ∃ u, t2 = u + 1 := ⟨t2 - 1, by omega⟩
   simp only [zdm, hd.2, Bool.false_eq_true, if_false] at e3 e4
   refine s2 hb h0 h4 _ _ b r' _ hs5 fun h5 hs6 => ?_
   simp +contextual -dsimp
   refine hs6.push (k := 1) rfl rfl (by omega) (by simp; omega) (by simp [maxLen]; omega) fun x' h6 hs7 => ?_
   have e6 : IntKind.i64.wrap (t2 : Int) = (t2 : Int) := by rw [wrap_i64 (by omega) (by omega)]
   have c5 : x'.zm = true := by
    obtain ⟨z, R, hz, ho, hle⟩ := hs7
    exact (ho.slAt 1 rfl).zm
   simp +contextual -dsimp [e6, c5]
   refine hZ t2 _ _ (by omega) ⟨x', acc ++ [(zdy b r').1], (zdy b r').2, rfl, by simp; omega, ?_, e4, ?_⟩
   ·rw [<- e3, List.append_assoc]; rfl
   ·rw [List.map_append]; exact hs7
  ·rw [zq0 (by simpa using hd), List.append_nil] at e3
   rw [zq0 (by simpa using hd)] at e4
   simp only at e4
   subst e3
   rw [<- e4] at hq
   simp +contextual -dsimp
   exact zk (hq (x, y) _ hs5)
def zco.Spec (C : CSem) (N : zN) : Prop := ∀ (hb h0 h : za) (l : List Ob) (p : AVal) (b : List UInt8) (id : Int) (r : Rdr) (Q : zQ), RwL hb h0 h l p b r ->
 (∀ h', RwL hb h0 h' l p b (zuf b id r).2 -> Q (.agg (zuf b id r).1.cs) h') -> C (N 434) [p, .int .i64 id] h Q
theorem zco.spec (i : zco.Imp C N) (s1 : zp.Spec C N) (s2 : zb3.Spec C N) : zco.Spec C N := by
 intro hb h0 h l p b id r Q hs hq
 apply i
 try simp +contextual -dsimp
 refine s2 hb h0 h l p b r _ hs fun h1 hs1 => ?_
 simp +contextual -dsimp
 refine s1 hb h0 h1 l p b _ 2 _ hs1 (by omega) fun h2 hs2 => ?_
 refine s1 hb h0 h2 l p b _ 2 _ hs2 (by omega) fun h3 hs3 => ?_
 simp +contextual -dsimp
 refine s1 hb h0 h3 l p b _ 4 _ hs3 (by omega) fun h4 hs4 => ?_
 simp +contextual -dsimp
 refine s1 hb h0 h4 l p b _ 1 _ hs4 (by omega) fun h5 hs5 => ?_
 simp +contextual -dsimp
 exact zk (hq _ hs5)
def zch.Spec (C : CSem) (N : zN) : Prop := ∀ (hb h0 h : za) (l : List Ob) (p : AVal) (b : List UInt8) (id : Int) (r : Rdr) (Q : zQ), RwL hb h0 h l p b r ->
 (∀ h', RwL hb h0 h' l p b (zqz b id r).2 -> Q (.agg (zqz b id r).1.cs) h') -> C (N 435) [p, .int .i64 id] h Q
theorem zch.spec (i : zch.Imp C N) (s1 : zp.Spec C N) (s2 : zb3.Spec C N) : zch.Spec C N := by
 intro hb h0 h l p b id r Q hs hq
 apply i
 try simp +contextual -dsimp
 refine s2 hb h0 h l p b r _ hs fun h1 hs1 => ?_
 simp +contextual -dsimp
 refine s1 hb h0 h1 l p b _ 4 _ hs1 (by omega) fun h2 hs2 => ?_
 simp +contextual -dsimp
 refine s1 hb h0 h2 l p b _ 2 _ hs2 (by omega) fun h3 hs3 => ?_
 refine s1 hb h0 h3 l p b _ 1 _ hs3 (by omega) fun h4 hs4 => ?_
 simp +contextual -dsimp
 refine s1 hb h0 h4 l p b _ 1 _ hs4 (by omega) fun h5 hs5 => ?_
 simp +contextual -dsimp [zld]
 refine s1 hb h0 h5 l p b _ 2 _ hs5 (by omega) fun h6 hs6 => ?_
 simp +contextual -dsimp
 refine s2 hb h0 h6 l p b _ _ hs6 fun h7 hs7 => ?_
 simp +contextual -dsimp
 exact zk (hq _ hs7)
end Go.Ab
namespace Go.Ab
variable {C : CSem} {N : zN}
def zba.Spec (C : CSem) (N : zN) : Prop := ∀ (x : AVal) (L : List (List UInt8)) (R : List (List AVal)) (s : List UInt8) (h : za) (Q : zQ), SlX h 1 x (L.map tc) R -> L.length < 4611686018427387904 ->
 (∀ n : Int, (0 <= n ↔ s ∈ L) -> Q (.int .i64 n) h) -> C (N 445) [x, .str s] h Q
theorem zba.spec (i : zba.Imp C N) : zba.Spec C N := by
 intro x L R s h Q hx hl hq
 apply i
 have hlx := hx.zj
 rw [List.length_map] at hlx
 simp -dsimp only [zba.cps, zfb.cps, hlx, B.zi]
 refine zd.intro (fun n vs hh => ∃ k : Nat, k + n = L.length ∧ vs = [.int .i64 (k : Int)] ∧ hh = h ∧ s ∉ L.take k) L.length ?_ ⟨0, by simp, rfl, rfl, by simp⟩
 rintro Y n vs hh ⟨k, hn, rfl, rfl, hno⟩ hY
 simp -dsimp only [zfb.l2, zfb.k1, lssN, B.zi]
 refine B.ze (fun hc => ?_) (fun hc => ?_)
 ·rw [decide_eq_true_eq] at hc
  obtain ⟨w, hw⟩ := zdz hc
  have hk : k < (L.map tc).length := by simpa using hc
  have e1 : A.ldv hh (elp 1 x k 0) = some (.str w) := hx.cell (get_map hw)
  have e2 : V.idxS (opsS 16 (.str []) 0).es x (.int .i64 (k : Int)) = some (elp 1 x k 0) := hx.idxN hk
  have e3 : ∀ (p : AVal) (K : AVal -> Prop), (opsS 16 (.str []) 0).ld hh p K = B.pv (A.ldv hh p) K := fun _ _ => rfl
  simp -dsimp only [e2, e3, e1, B.zi, V.zn8]
  refine B.ze (fun hd => ?_) (fun hd => ?_)
  ·rw [decide_eq_true_eq] at hd
   subst hd
   exact zk (hq k ⟨fun _ => List.mem_of_getElem? hw, fun _ => by omega⟩)
  ·rw [decide_eq_false_iff_not] at hd
   simp -dsimp only [add1 (show k < 4611686018427387904 by omega), B.zi]
   refine hY (L.length - (k + 1)) _ _ (by omega) ⟨k + 1, by omega, rfl, rfl, ?_⟩
   rw [take_succ hw]
   simp [hno, hd]
 ·rw [decide_eq_false_iff_not] at hc
  have : k = L.length := by omega
  subst this
  rw [List.take_length] at hno
  exact zk (hq (-1) ⟨fun h => by omega, fun h => absurd h hno⟩)
def zr.Spec (C : CSem) (N : zN) : Prop := ∀ (x : AVal) (L : List (List UInt8)) (R : List (List AVal)) (s : List UInt8) (h : za) (Q : zQ), SlX h 1 x (L.map tc) R -> L.length < 4611686018427387904 ->
 Q (.bool (decide (s ∈ L))) h -> C (N 442) [x, .str s] h Q
theorem zr.spec (i : zr.Imp C N) (s1 : zba.Spec C N) : zr.Spec C N := by
 intro x L R s h Q hx hl hq
 apply i
 simp -dsimp only [zr.cps, zmf.cps]
 refine s1 x L R s h _ hx hl fun n hn => ?_
 simp -dsimp only [V.bin_geq, B.zi]
 rw [decide_eq_decide.2 hn]
 exact zk hq
def zd2.Spec (C : CSem) (N : zN) : Prop := ∀ (most : Nat) (x : AVal) (L : List (List UInt8)) (R : List (List AVal)) (h : za) (Q : zQ), SlX h 1 x (L.map tc) R -> L.length < 4611686018427387904 ->
 Q (.bool (zmk most L)) h -> C (N 441) [.int .i64 (most : Int), x] h Q
theorem zd2.spec (i : zd2.Imp C N) (s1 : zb9.Spec C N) (s2 : zr.Spec C N) : zd2.Spec C N := by
 intro most x L R h Q hx hl hq
 apply i
 have hlx := hx.zj
 rw [List.length_map] at hlx
 simp -dsimp only [zd2.cps, hlx, B.zi]
 refine zd.intro (fun n vs hh => ∃ k : Nat, k + n = L.length ∧ vs = [.int .i64 (k : Int)] ∧ hh = h ∧ (L.take k).all zcc = true ∧ (L.take k).Nodup) L.length ?_ ⟨0, by simp, rfl, rfl, rfl, by simp⟩
 rintro Y n vs hh ⟨k, hn, rfl, rfl, hall, hnd⟩ hY
 simp -dsimp only [zd2.l2, zd2.k1, lssN, B.zi]
 refine B.ze (fun hc => ?_) (fun hc => ?_)
 ·rw [decide_eq_true_eq] at hc
  obtain ⟨w, hw⟩ := zdz hc
  have hk : k < (L.map tc).length := by simpa using hc
  have e1 : A.ldv hh (elp 1 x k 0) = some (.str w) := hx.cell (get_map hw)
  have e2 : V.idxS 1 x (.int .i64 (k : Int)) = some (elp 1 x k 0) := hx.idxN hk
  obtain ⟨z, R', e3, e4, _⟩ := hx.zh0 (by omega) (lo := 0) (hi := k) (a := none) (b := some (.int .i64 (k : Int))) (.inl ⟨rfl, rfl⟩) (.inr ⟨_, rfl⟩) (by omega) (by omega)
  rw [List.drop_zero] at e4
  simp -dsimp only [e2, e1, B.zii, B.zi]
  refine s1 _ _ _ ?_
  simp +contextual -dsimp [e3]
  refine B.zee (v := .bool (decide (w ∈ L.take k))) (fun _ Q hq => s2 z _ _ _ _ _ e4 (by simp; omega) hq) ?_
  simp -dsimp
  have step : zcc w = true -> w ∉ L.take k -> (L.take (k + 1)).all zcc = true ∧ (L.take (k + 1)).Nodup := fun h1 h2 => by
   rw [take_succ hw]
   refine ⟨by simp only [List.all_append, hall, Bool.true_and, List.all_cons, List.all_nil, Bool.and_true, h1], ?_⟩
   rw [List.nodup_append]
   exact ⟨hnd, by simp, fun a ha b hb e => by rw [List.mem_singleton.1 hb] at e; subst e; exact h2 ha⟩
  refine B.ze (fun hd => ?_) (fun hd => ?_)
  ·have : zmk most L = false := by
    unfold zmk
    by_cases h1 : zcc w = true
    ·refine Bool.and_eq_false_iff.2 (.inr (Bool.and_eq_false_iff.2 (.inl (decide_eq_false fun h2 => ?_))))
     have h3 : w ∈ L.take k := by simpa [h1] using hd
     have h4 : (L.take (k + 1)).Nodup := h2.sublist (List.take_sublist _ _)
     rw [take_succ hw, List.nodup_append] at h4
     exact h4.2.2 w h3 w (by simp) rfl
    ·refine Bool.and_eq_false_iff.2 (.inl ?_)
     rw [<- Bool.not_eq_true, List.all_eq_true]
     exact fun h2 => h1 (h2 w (List.mem_of_getElem? hw))
   rw [this] at hq
   exact zk hq
  ·have h1 : zcc w = true ∧ w ∉ L.take k := by
    cases h : zcc w <;> simp [h] at hd ⊢
    exact hd
   simp -dsimp only [add1 (show k < 4611686018427387904 by omega), B.zi]
   refine hY (L.length - (k + 1)) _ _ (by omega) ⟨k + 1, by omega, rfl, rfl, step h1.1 h1.2⟩
 ·rw [decide_eq_false_iff_not] at hc
  have : k = L.length := by omega
  subst this
  rw [List.take_length] at hall hnd
  simp -dsimp only [leqN, hlx, B.zi]
  have : zmk most L = decide (L.length <= most) := by unfold zmk; rw [hall, decide_eq_true hnd]; rfl
  rw [this] at hq
  exact zk hq
def zdf.Spec (C : CSem) (N : zN) : Prop := ∀ (t : Itm) (a : AVal × AVal) (h : za) (Q : zQ), zh2.at_ h t a -> Q (.bool (znf t)) h -> C (N 438) [.agg (zh2.cells t a)] h Q
theorem zdf.spec (i : zdf.Imp C N) (s1 : zd2.Spec C N) : zdf.Spec C N := by
 intro t a h Q ha hq
 obtain ⟨⟨R1, a1⟩, ⟨R2, a2⟩, a3, a4⟩ : (∃ R, SlX h 2 a.1 (t.zf2.map Part.cs) R) ∧ (∃ R, SlX h 1 a.2 (t.zfk.map tc) R) ∧ t.ok := ha
 unfold few at a3 a4
 apply i
 have l1 := a1.zj
 rw [List.length_map] at l1
 simp -dsimp [zh2]
 intro id hid
 have o1 := (Owns.start h).zl6 (id := id) (n := 1) (cp := 1) (es := 1) (cs := [.str t.Code]) (L := [t.Code].map tc) (R := []) hid (by simp) rfl (by simp) rfl
 refine o1.appW 0 rfl (a2.mono o1.le) (by omega) (by simp; omega) (by simp [maxLen]; omega) fun x2 h2 o2 _ => ?_
 have hx2 := o2.slAt 0 rfl
 have hx2 : SlX h2 1 x2 ((t.Code :: t.zfk).map tc) [] := hx2
 refine s1 5 x2 _ _ _ _ hx2 (by simp; omega) ?_
 simp -dsimp [l1]
 have fin : ∀ (b : Bool) (h' : za), h.le h' -> znf t = b -> dn Q (.bool b) h' := fun b h' hle e => by rw [e] at hq; exact zrp hle hq
 refine B.ze (fun hb => ?_) (fun hb => ?_)
 ·refine fin _ _ o2.le ?_
  have hb : zmk 5 (t.Code :: t.zfk) = false := by simpa using hb
  unfold znf; rw [hb]; rfl
 ·have hb : zmk 5 (t.Code :: t.zfk) = true := by simpa using hb
  simp +contextual -dsimp [l1]
  refine B.ze (fun hc => ?_) (fun hc => ?_)
  ·have hp : t.zf2 = [] := by simpa using hc
   simp +contextual -dsimp
   refine fin _ _ o2.le ?_
   unfold znf; rw [hb, hp]; simp
  ·have hp : t.zf2 ≠ [] := by simpa using hc
   have hk : znf t = (qtyB t && (decide (t.Life = 0) && zmk 8 (partsIn t))) := by unfold znf; rw [hb, decide_eq_false hp]; rfl
   simp -dsimp [l1]
   refine zd.intro (fun n vs hh => ∃ (k : Nat) (y : AVal), k + n = t.zf2.length ∧ vs = [y, .int .i64 (k : Int)] ∧ Owns h hh [.sl 1 y (((t.zf2.take k).map Part.Item).map tc) []] ∧ (t.zf2.take k).all (fun p => decide (1 <= p.Qty) && decide (p.Qty <= 1073741824)) = true) t.zf2.length ?_ ⟨0, .nils, by simp, rfl, by simpa using ((Owns.start h2).nils 1).back o2.le, rfl⟩
   rintro Y n vs hh ⟨k, y, hn, rfl, o3, hall⟩ hY
   simp -dsimp only [zdf.l3, zdf.k2, lssN, B.zi]
   refine B.ze (fun hd => ?_) (fun hd => ?_)
   ·rw [decide_eq_true_eq] at hd
    obtain ⟨w, hw⟩ := zdz hd
    have hk2 : k < (t.zf2.map Part.cs).length := by simpa using hd
    have e1 := (a1.mono o3.le).elem (get_map hw)
    have e2 : V.idxS 2 a.1 (.int .i64 (k : Int)) = some (elp 2 a.1 k 0) := a1.idxN hk2
    simp +contextual -dsimp [e1, e2, - V.zep]
    have bad : (decide (w.Qty < 1) || decide (1073741824 < w.Qty)) = !(decide (1 <= w.Qty) && decide (w.Qty <= 1073741824)) := by
     rw [Bool.eq_iff_iff]; simp <;> omega
    refine B.ze (fun he => ?_) (fun he => ?_)
    ·refine fin _ _ o3.le ?_
     have : qtyB t = false := by
      unfold qtyB
      rw [List.all_eq_false]
      exact ⟨w, List.mem_of_getElem? hw, by rw [bad, Bool.not_eq_true'] at he; rw [he]; exact Bool.false_ne_true⟩
     rw [hk, this]; rfl
    ·refine o3.push 0 rfl rfl (by omega) (by simp; omega) (by simp [maxLen]; omega) fun y4 h4 o4 _ => ?_
     simp -dsimp only [add1 (show k < 4611686018427387904 by omega), B.zi]
     refine hY (t.zf2.length - (k + 1)) _ _ (by omega) ⟨k + 1, y4, by omega, rfl, ?_, ?_⟩
     ·rw [take_succ hw, List.map_append, List.map_append]; exact o4
     ·rw [take_succ hw, List.all_append, hall]
      rw [bad] at he
      simpa using he
   ·rw [decide_eq_false_iff_not] at hd
    have : k = t.zf2.length := by omega
    subst this
    rw [List.take_length] at o3 hall
    simp +contextual -dsimp
    refine B.zee (v := .bool (zmk 8 (partsIn t))) (fun _ Q hq => s1 8 y _ _ _ _ (o3.slAt 0 rfl) (by simp; omega) hq) ?_
    simp -dsimp
    refine fin _ _ o3.le ?_
    rw [hk, show qtyB t = true from hall]; rfl
end Go.Ab
namespace Go.Ab
variable {C : CSem} {N : zN}
structure zry (h : za) (s : Sta) (x y z : AVal) : Prop where
 items : Dl zh2 h x s.zgy
 lots : ∃ R, SlX h 6 y (s.Lots.map Lot.cs) R
 lines : ∃ R, SlX h 8 z (s.zgp.map Line.cs) R
 n1 : s.zgy.length <= 100000000
 n2 : s.Lots.length <= 100000000
 n3 : s.zgp.length <= 100000000
theorem zry.mono {h h' : za} {s : Sta} {x y z : AVal} (a : zry h s x y z) (hle : h.le h') : zry h' s x y z :=
 ⟨a.items.mono hle, a.lots.imp fun _ r => r.mono hle, a.lines.imp fun _ r => r.mono hle, a.n1, a.n2, a.n3⟩
abbrev ztb (s : Sta) (x y z : AVal) : List AVal := [.int .i64 s.Now, .int .i64 s.zlc, .int .i64 s.zjl, x, y, z]
theorem ordB_snoc {T : Type} {ok : T -> Bool} {lt : T -> T -> Bool} : ∀ (l : List T) (p : Option T) (x : T), ordB ok lt p (l ++ [x]) = (ordB ok lt p l && (ok x && zvy lt x ((l.getLast?).or p)))
 | [], p, x => by simp [ordB]
 | a :: l, p, x => by
  have := ordB_snoc (ok := ok) (lt := lt) l (some a) x
  have e : (l.getLast?).or (some a) = ((a :: l).getLast?).or p := by
   rw [List.getLast?_cons]; cases l.getLast? <;> rfl
  rw [List.cons_append, ordB, this, ordB, e]
  simp only [Bool.and_assoc]
theorem zuy {T : Type} {ok : T -> Bool} {lt : T -> T -> Bool} {l : List T} {k : Nat} {x : T} (hx : l[k]? = some x) : ordB ok lt none (l.take (k + 1)) = (ordB ok lt none (l.take k) && (ok x && (decide (k = 0) || zvy lt x l[k - 1]?))) := by
 rw [take_succ hx, ordB_snoc]
 have hk : k < l.length := (List.getElem?_eq_some_iff.1 hx).1
 cases k with
 | zero => simp [zvy]
 | succ k =>
  have e : ((l.take (k + 1)).getLast?).or none = l[k + 1 - 1]? := by
   rw [Option.or_none, List.getLast?_eq_getElem?, List.length_take, Nat.min_eq_left (by omega), List.getElem?_take_of_lt (by omega)]
  rw [e]; simp
theorem add0 : V.bin .add (.int .i64 0) (.int .i64 1) = some (.int .i64 ((0 + 1 : Nat) : Int)) := rfl
def zbu.Spec (C : CSem) (N : zN) : Prop := ∀ (s : Sta) (x y z : AVal) (h : za) (Q : zQ), zry h s x y z -> Q (.bool (zo5 s)) h -> C (N 426) [.agg (ztb s x y z)] h Q
theorem zbu.spec (i : zbu.Imp C N) (s1 : zdf.Spec C N) (s2 : ze6.Spec C N) (s3 : zer.Spec C N) : zbu.Spec C N := by
 intro s x y z h Q ha hq
 obtain ⟨hi, ⟨R1, hl⟩, ⟨R2, hn⟩, n1, n2, n3⟩ := ha
 apply i
 have l1 := hi.zj
 have l2 := hl.zj
 have l3 := hn.zj
 rw [List.length_map] at l2 l3
 have hx := hi.zm
 have hy := hl.zm
 have hz := hn.zm
 simp +contextual -dsimp [l1]
 refine zd.intro (fun n vs hh => ∃ k : Nat, k + n = s.zgy.length ∧ vs = [.bool (numsB s && ordB znf (fun a b => zoy a.Code b.Code) none (s.zgy.take k)), .int .i64 (k : Int)] ∧ hh = h) s.zgy.length ?_ ⟨0, by simp, by unfold numsB; simp [ordB], rfl⟩
 rintro Y n vs hh ⟨k, hk, rfl, rfl⟩ hY
 simp -dsimp only [zbu.l6, zbu.k5, lssN, B.zi]
 refine B.ze (fun hc => ?_) (fun hc => ?_)
 ·rw [decide_eq_true_eq] at hc
  obtain ⟨w, hw⟩ := zdz hc
  obtain ⟨a, ea⟩ := hi.get hw
  have e1 := ea.idx
  have e2 := ea.ldn
  have e3 : V.setN 0 4 (.agg (zh2.cells w a)) (.agg [.str [], .int .i64 0, .nils, .nils]) = some (.agg (zh2.cells w a)) := zlh zh2 w a
  simp -dsimp only [show V.idxS 4 x (.int .i64 (k : Int)) = some (elp 4 x k 0) from e1, show A.ldnv hh (elp 4 x k 0) 4 = some (.agg (zh2.cells w a)) from e2, e3, B.zk3, B.zi]
  have step := zuy (ok := znf) (lt := fun a b : Itm => zoy a.Code b.Code) hw
  generalize hP : (numsB s && ordB znf (fun a b => zoy a.Code b.Code) none (s.zgy.take k)) = P at *
  simp +contextual -dsimp [zh2]
  refine B.zee (v := .bool (znf w)) (fun _ Q hq => s1 w a _ _ ea.at_ hq) ?_
  have fin : ∀ b : Bool, b = (P && (znf w && (decide (k = 0) || zvy (fun a b : Itm => zoy a.Code b.Code) w s.zgy[k - 1]?))) -> Y [.bool b, .int .i64 ((k + 1 : Nat) : Int)] hh := fun b e => by
   refine hY (s.zgy.length - (k + 1)) _ _ (by omega) ⟨k + 1, by omega, ?_, rfl⟩
   rw [step, <- Bool.and_assoc, hP, <- e]
  by_cases h0 : k = 0
  ·subst h0
   simp +contextual -dsimp [- V.zep, add0]
   refine fin _ (by simp)
  ·obtain ⟨u, hu⟩ := zdz (L := s.zgy) (k := k - 1) (by omega)
   obtain ⟨c, ec⟩ := hi.get hu
   have sk := sub1 (a := k) (by omega) (by omega)
   have f1 : V.idxS 4 x (.int .i64 ((k - 1 : Nat) : Int)) = some (elp 4 x (k - 1) 0) := ec.idx
   have f2 : V.fieldAddr 0 (elp 4 x (k - 1) 0) = some (elp 4 x (k - 1) 0) := ec.fld 0 0
   have f3 : A.ldv hh (elp 4 x (k - 1) 0) = some (.str u.Code) := ec.ld 0 (by decide)
   simp +contextual -dsimp [- V.zep, - V.zkq, add1 (show k < 4611686018427387904 by omega), sk, h0, f1, f2, f3, V.bin_slss, zh2]
   refine fin _ (by rw [hu, decide_eq_false h0]; simp [zvy, Bool.and_assoc])
 ·rw [decide_eq_false_iff_not] at hc
  have : k = s.zgy.length := by omega
  subst this
  rw [List.take_length]
  generalize hP1 : (numsB s && ordB znf (fun a b => zoy a.Code b.Code) none s.zgy) = P1
  simp +contextual -dsimp [l2]
  refine zd.intro (fun n vs h2 => ∃ k : Nat, k + n = s.Lots.length ∧ vs = [.bool (P1 && ordB zgv (fun a b => decide (a.Id < b.Id)) none (s.Lots.take k)), .int .i64 (k : Int)] ∧ h2 = hh) s.Lots.length ?_ ⟨0, by simp, by simp [ordB], rfl⟩
  rintro Y2 n2 vs h2 ⟨k, hk2, rfl, rfl⟩ hY
  simp -dsimp only [zbu.l4, zbu.k3, lssN, B.zi]
  refine B.ze (fun hc => ?_) (fun hc => ?_)
  ·rw [decide_eq_true_eq] at hc
   obtain ⟨w, hw⟩ := zdz hc
   have hkl : k < (s.Lots.map Lot.cs).length := by simpa using hc
   have e1 : V.idxS 6 y (.int .i64 (k : Int)) = some (elp 6 y k 0) := hl.idxN hkl
   have e2 := hl.elem (get_map hw)
   have step := zuy (ok := zgv) (lt := fun a b : Lot => decide (a.Id < b.Id)) hw
   generalize hP : (P1 && ordB zgv (fun a b => decide (a.Id < b.Id)) none (s.Lots.take k)) = P at *
   simp +contextual -dsimp [e1, e2]
   refine B.zee (v := .bool (zgv w)) (fun _ Q hq => s2 w _ _ hq) ?_
   have fin : ∀ b : Bool, b = (P && (zgv w && (decide (k = 0) || zvy (fun a b : Lot => decide (a.Id < b.Id)) w s.Lots[k - 1]?))) -> Y2 [.bool b, .int .i64 ((k + 1 : Nat) : Int)] h2 := fun b e => by
    refine hY (s.Lots.length - (k + 1)) _ _ (by omega) ⟨k + 1, by omega, ?_, rfl⟩
    rw [step, <- Bool.and_assoc, hP, <- e]
   by_cases h0 : k = 0
   ·subst h0
    simp +contextual -dsimp [- V.zep, add0]
    refine fin _ (by simp)
   ·obtain ⟨u, hu⟩ := zdz (L := s.Lots) (k := k - 1) (by omega)
    have sk := sub1 (a := k) (by omega) (by omega)
    have hku : k - 1 < (s.Lots.map Lot.cs).length := by simp; omega
    have f1 : V.idxS 6 y (.int .i64 ((k - 1 : Nat) : Int)) = some (elp 6 y (k - 1) 0) := hl.idxN hku
    have f2 : V.fieldAddr 0 (elp 6 y (k - 1) 0) = some (elp 6 y (k - 1) 0) := hl.zvf hku 0 0
    have f3 : A.ldv h2 (elp 6 y (k - 1) 0) = some (.int .i64 u.Id) := hl.ldv (get_map hu) (by omega)
    simp +contextual -dsimp [- V.zep, - V.zkq, add1 (show k < 4611686018427387904 by omega), sk, h0, f1, f2, f3]
    refine fin _ (by rw [hu, decide_eq_false h0]; simp [zvy, Bool.and_assoc])
  ·rw [decide_eq_false_iff_not] at hc
   have : k = s.Lots.length := by omega
   subst this
   rw [List.take_length]
   generalize hP2 : (P1 && ordB zgv (fun a b => decide (a.Id < b.Id)) none s.Lots) = P2
   simp +contextual -dsimp [l3]
   refine zd.intro (fun n vs h3 => ∃ k : Nat, k + n = s.zgp.length ∧ vs = [.bool (P2 && ordB zg6 (fun a b => decide (a.Id < b.Id)) none (s.zgp.take k)), .int .i64 (k : Int)] ∧ h3 = h2) s.zgp.length ?_ ⟨0, by simp, by simp [ordB], rfl⟩
   rintro Y3 n4 vs h3 ⟨k, hk3, rfl, rfl⟩ hY
   simp -dsimp only [zbu.l2, zbu.k1, lssN, B.zi]
   refine B.ze (fun hc => ?_) (fun hc => ?_)
   ·rw [decide_eq_true_eq] at hc
    obtain ⟨w, hw⟩ := zdz hc
    have hkl : k < (s.zgp.map Line.cs).length := by simpa using hc
    have e1 : V.idxS 8 z (.int .i64 (k : Int)) = some (elp 8 z k 0) := hn.idxN hkl
    have e2 := hn.elem (get_map hw)
    have step := zuy (ok := zg6) (lt := fun a b : Line => decide (a.Id < b.Id)) hw
    generalize hP : (P2 && ordB zg6 (fun a b => decide (a.Id < b.Id)) none (s.zgp.take k)) = P at *
    simp +contextual -dsimp [e1, e2]
    refine B.zee (v := .bool (zg6 w)) (fun _ Q hq => s3 w _ _ hq) ?_
    have fin : ∀ b : Bool, b = (P && (zg6 w && (decide (k = 0) || zvy (fun a b : Line => decide (a.Id < b.Id)) w s.zgp[k - 1]?))) -> Y3 [.bool b, .int .i64 ((k + 1 : Nat) : Int)] h3 := fun b e => by
     refine hY (s.zgp.length - (k + 1)) _ _ (by omega) ⟨k + 1, by omega, ?_, rfl⟩
     rw [step, <- Bool.and_assoc, hP, <- e]
    by_cases h0 : k = 0
    ·subst h0
     simp +contextual -dsimp [- V.zep, add0]
     refine fin _ (by simp)
    ·obtain ⟨u, hu⟩ := zdz (L := s.zgp) (k := k - 1) (by omega)
     have sk := sub1 (a := k) (by omega) (by omega)
     have hku : k - 1 < (s.zgp.map Line.cs).length := by simp; omega
     have f1 : V.idxS 8 z (.int .i64 ((k - 1 : Nat) : Int)) = some (elp 8 z (k - 1) 0) := hn.idxN hku
     have f2 : V.fieldAddr 0 (elp 8 z (k - 1) 0) = some (elp 8 z (k - 1) 0) := hn.zvf hku 0 0
     have f3 : A.ldv h3 (elp 8 z (k - 1) 0) = some (.int .i64 u.Id) := hn.ldv (get_map hu) (by omega)
     simp +contextual -dsimp [- V.zep, - V.zkq, add1 (show k < 4611686018427387904 by omega), sk, h0, f1, f2, f3]
     refine fin _ (by rw [hu, decide_eq_false h0]; simp [zvy, Bool.and_assoc])
   ·rw [decide_eq_false_iff_not] at hc
    have : k = s.zgp.length := by omega
    subst this
    rw [List.take_length]
    refine zk ?_
    have e : (P2 && ordB zg6 (fun a b => decide (a.Id < b.Id)) none s.zgp) = zo5 s := by
     rw [<- hP2, <- hP1]; unfold zo5 itemsB lotsB linesB; simp only [Bool.and_assoc]
    rw [e]; exact hq
end Go.Ab
namespace Go.Ab
variable {C : CSem} {N : zN}
theorem zm4 {h : za} {x : AVal} {L : List Row} (hx : Dl rowK h x L) {i : Nat} {r : Row} (hr : L[i]? = some r) : ∃ k v, V.idxS 2 x (.int .i64 (i : Int)) = some (elp 2 x i 0) ∧ A.ldnv h (elp 2 x i 0) 2 = some (.agg [k, v]) ∧ V.fieldAddr 0 (elp 2 x i 0) = some (elp 2 x i 0) ∧
  V.fieldAddr 1 (elp 2 x i 0) = some (elp 2 x i 1) ∧ A.ldv h (elp 2 x i 0) = some k ∧ A.ldv h (elp 2 x i 1) = some v ∧ Bs h k r.Key ∧ Bs h v r.Value := by
 obtain ⟨a, ea⟩ := hx.get hr
 exact ⟨a.1, a.2, ea.idx, ea.ldn, ea.fld 0 0, ea.fld 0 1, ea.ld 0 (by decide), ea.ld 1 (by decide), ea.at_.1, ea.at_.2⟩
theorem lenZ {α : Type} [DecidableEq α] (s : List α) : decide ((s.length : Int) = 0) = decide (s = []) := by
 cases s with
 | nil => rfl
 | cons a s => simp; omega
def zdu.Spec (C : CSem) (N : zN) : Prop := ∀ (x y : AVal) (a b : List UInt8) (h : za) (Q : zQ), Bs h x a -> Bs h y b -> Q (.int .i64 (cmpB a b)) h -> C (N 274) [x, y] h Q
theorem zdu.spec (i : zdu.Imp C N) (i2 : zi6.Imp C N) : zdu.Spec C N := fun x y a b h Q ⟨⟨R, hx⟩, _⟩ ⟨⟨S, hy⟩, _⟩ hq =>
 i x y h Q (i2 x y a b R S h _ hx hy (zk hq))
def zd4.Spec (C : CSem) (N : zN) : Prop := ∀ (x y : AVal) (a b : List UInt8) (h : za) (Q : zQ), Bs h x a -> Bs h y b -> Q (.bool (decide (a = b))) h -> C (N 273) [x, y] h Q
theorem zd4.spec (i : zd4.Imp C N) : zd4.Spec C N := fun x y a b h Q ⟨⟨R, hx⟩, _⟩ ⟨⟨S, hy⟩, _⟩ hq => by
 apply i
 simp -dsimp only [zd4.cps, zei hx, zei hy, V.zn8, B.zi]
 exact zk hq
theorem strBytes_own {h : za} {s : List UInt8} {K : zQ} (hs : s.length <= far) (hk : ∀ x' h', Owns h h' [bOb false x' s] -> K x' h') : B.zhf h (.str s) K := by
 refine ⟨by unfold far at hs; omega, fun id hid => hk _ _ ?_⟩
 exact (Owns.start h).zl6 (id := id) (n := s.length) (cp := s.length) (es := 1) (cs := s.map fun b => .int .u8 b.toNat) (L := s.map bc) (R := []) hid (by simp) (by simp) (by simp) (by rw [List.append_nil, bc_flat])
end Go.Ab
namespace Go.Ab
variable {C : CSem} {N : zN}
def Kp2 (h h' : za) (p : AVal) (o : Option Nat) : Prop := match o with
 | none => ∃ x, A.ldv h p = some x ∧ A.ldv h' p = some x
 | some n => ∃ x, A.ldnv h p n = some x ∧ A.ldnv h' p n = some x
theorem keepD2 {h h' : za} {p q : AVal} {o u : Option Nat} {K : zQ} {v : AVal} (h1 : Kp2 h h' p o) (h2 : Kp2 h h' q u) (hk : K v h') : B.zkm h [(p, o), (q, u)] K v h' := by
 refine ⟨fun r hr => ?_, hk⟩
 rcases List.mem_cons.1 hr with rfl | hr
 ·unfold Kp2 at h1; cases o <;> exact h1
 ·rw [List.mem_singleton.1 hr]; unfold Kp2 at h2; cases u <;> exact h2
theorem keepD1 {h h' : za} {p : AVal} {o : Option Nat} {K : zQ} {v : AVal} (h1 : Kp2 h h' p o) (hk : K v h') : B.zkm h [(p, o)] K v h' := by
 refine ⟨fun r hr => ?_, hk⟩
 rw [List.mem_singleton.1 hr]; unfold Kp2 at h1; cases o <;> exact h1
theorem Owns.rebase {h0 h h' : za} {l l' : List Ob} (ho : Owns h0 h l) (hn : Owns h h' l') : ∃ h1 : za, h0.le h1 ∧ h1.le h' ∧ Owns h1 h' l ∧ zto h1 l' := by
 obtain ⟨q1, q2⟩ := ((ho.join hn).perm List.perm_append_comm).out
 exact ⟨_, q1.le, q2.le, q2, q1.is⟩
structure ElD (C : CSem) (E : zfz) (Mk : za -> Int -> Int -> List AVal -> Prop) (v : List AVal -> AVal) : Prop where
 pos : 0 < E.es
 zlen : E.z.length = E.es
 len : ∀ {h : za} {k i : Int} {c : List AVal}, Mk h k i c -> c.length = E.es
 mono : ∀ {h h' : za} {k i : Int} {c : List AVal}, h.le h' -> Mk h k i c -> Mk h' k i c
 new : ∀ {h : za} {k i : Int} {c : List AVal}, Mk h k i c -> zc0 [(0, E.kp, v c)] (repL 1 E.z) = some c
 call : ∀ (k i : Int) (h : za) (Q : zQ), (∀ c h' l, Owns h h' l -> (∀ h1, zto h1 l -> Mk h1 k i c) -> Q (v c) h') -> C E.f [.int .i64 k, .int .i64 i] h Q
 ld : ∀ {h : za} {x : AVal} {L R : List (List AVal)} {i : Nat} {c : List AVal} {K : AVal -> Prop}, SlX h E.es x L R -> L[i]? = some c -> K (v c) -> E.ld h (elp E.es x i 0) K
 kpt : ∀ {h h' : za} {x : AVal} {L R : List (List AVal)} {i : Nat} {c : List AVal}, SlX h E.es x L R -> SlX h' E.es x L R -> L[i]? = some c -> Kp2 h h' (elp E.es x i 0) E.kp
 st : ∀ {h : za} {x : AVal} {L R : List (List AVal)} {i : Nat} {c c0 : List AVal} {k j : Int} {K : za -> Prop}, SlX h E.es x L R -> (∀ id b, foot x = some id -> h id = some b -> b.own = true) -> L[i]? = some c0 -> Mk h k j c ->
  (∀ h', SlX h' E.es x (L.set i c) R -> (∀ id b, foot x = some id -> h' id = some b -> b.own = true) -> But x h h' -> K h') -> E.st h (elp E.es x i 0) (v c) K
 eq : ∀ {h : za} {k i : Int} {c c' : List AVal} {K : zQ}, Mk h k i c -> Mk h k i c' -> K (.bool true) h -> E.eq h (v c) (v c') K
def zkt (Mk : za -> Int -> Int -> List AVal -> Prop) (h : za) (k s : Nat) (D : List (List AVal)) : Prop := ∀ (i : Nat) (c : List AVal), D[i]? = some c -> Mk h (k : Int) ((s + i : Nat) : Int) c
section
variable {E : zfz} {Mk : za -> Int -> Int -> List AVal -> Prop} {v : List AVal -> AVal} {h0 h h' : za} {k s : Nat} {D : List (List AVal)}
theorem zkt.mono (S : ElD C E Mk v) (m : zkt Mk h k s D) (hle : h.le h') : zkt Mk h' k s D := fun i c hc => S.mono hle (m i c hc)
theorem zkt.nil (Mk : za -> Int -> Int -> List AVal -> Prop) (h : za) (k s : Nat) : zkt Mk h k s [] := fun i c hc => by simp at hc
theorem zkt.snoc {c : List AVal} (m : zkt Mk h k s D) (hc : Mk h (k : Int) ((s + D.length : Nat) : Int) c) : zkt Mk h k s (D ++ [c]) := fun i d hd => by
 rw [List.getElem?_append] at hd
 split at hd
 ·exact m i d hd
 ·rename_i hlt
  have hi : i - D.length = 0 := by
   cases e : i - D.length with
   | zero => rfl
   | succ j => rw [e] at hd; simp at hd
  rw [hi] at hd
  simp only [List.getElem?_cons_zero, Option.some.injEq] at hd
  subst hd
  have : i = D.length := by omega
  subst this; exact hc
theorem zkt.append {D' : List (List AVal)} (m : zkt Mk h k s D) (m' : zkt Mk h k (s + D.length) D') : zkt Mk h k s (D ++ D') := fun i d hd => by
 rw [List.getElem?_append] at hd
 split at hd
 ·exact m i d hd
 ·have := m' _ _ hd
  rwa [show s + D.length + (i - D.length) = s + i by omega] at this
end
structure FD (E : zfz) (h0 h : za) (v5 : AVal) (n : Nat) (xs : Nat -> AVal) (X : Nat -> List (List AVal)) (ys : Nat -> AVal) (F : Nat -> List (List AVal)) (gs : Nat -> AVal) : Prop where
 own : Owns h0 h (Objs E.es n ys F (fun _ => []) ++ [.sl 1 v5 (zf0 n fun j => [gs j]) []])
 old : ∀ j, j < n -> Old h E.es (xs j) (X j) (ys j) (F j)
section
variable {E : zfz} {Mk : za -> Int -> Int -> List AVal -> Prop} {v : List AVal -> AVal} {h0 h h' : za} {x v5 : AVal} {n k : Nat} {xs ys gs : Nat -> AVal} {X F : Nat -> List (List AVal)} {W : List (List AVal)} {Q : zQ}
theorem FD.grow (fs : FD E h0 h v5 n xs X ys F gs) (hle : h.le h') : FD E h0 h' v5 n xs X ys F gs := ⟨fs.own.grow hle, fun j hj => (fs.old j hj).mono hle⟩
theorem FD.rebase (fs : FD E h0 h v5 n xs X ys F gs) {l' : List Ob} (hn : Owns h h' l') : ∃ h1 : za, h0.le h1 ∧ h1.le h' ∧ FD E h1 h' v5 n xs X ys F gs ∧ zto h1 l' := by
 obtain ⟨h1, a, b, o, c⟩ := fs.own.rebase hn
 exact ⟨h1, a, b, ⟨o, fun j hj => (fs.old j hj).mono hn.le⟩, c⟩
theorem FD.gAt (fs : FD E h0 h v5 n xs X ys F gs) : SlX h 1 v5 (zf0 n fun j => [gs j]) [] := fs.own.slAt n Objs.getL
theorem FD.yAt (fs : FD E h0 h v5 n xs X ys F gs) (hk : k < n) : SlX h E.es (ys k) (F k) [] := fs.own.slAt k (Objs.getA hk)
theorem FD.turn (fs : FD E h0 h v5 n xs X ys F gs) (hk : k < n) {y : AVal} {L : List (List AVal)} (h1 : SlX h' E.es y L []) (h2 : ∀ id b, foot y = some id -> h' id = some b -> b.own = true)
  (h3 : ∀ j b, h j = some b -> foot (ys k) ≠ some j -> h' j = some b) (h4 : foot y = foot (ys k) ∨ ∀ id, foot y = some id -> h id = none) (h5 : Old h' E.es (xs k) (X k) y L) : FD E h0 h' v5 n xs X (upf ys k y) (upf F k L) gs := by
 refine ⟨?_, fun j hj => ?_⟩
 ·have := fs.own.turn k (Objs.getA hk) (o' := .sl E.es y L []) h1 h2 h3 h4
  rwa [Objs.setA hk, zqw] at this
 ·by_cases e : j = k
  ·subst e; rw [zd5, zd5]; exact h5
  ·rw [zg5 _ _ e, zg5 _ _ e]
   exact (fs.old j hj).other (z := ys k) h3 (fs.own.ne (Objs.getA hj) (Objs.getA hk) e)
theorem FD.store (fs : FD E h0 h v5 n xs X ys F gs) (hk : k < n) {y : AVal} (hy : y.zm = true) {K : za -> Prop} (hK : ∀ h', FD E h0 h' v5 n xs X ys F (upf gs k y) -> K h') : A.st h (elp 1 v5 k 0) y K := by
 refine fs.own.st n Objs.getL (zlx _ hk) (by omega) hy fun h' ho hb => hK h' ⟨?_, fun j hj => ?_⟩
 ·rw [Objs.setL] at ho
  have e : (zf0 n fun j => [gs j]).set k ([gs k].set 0 y) = zf0 n fun j => [upf gs k y j] := by
   rw [fills_set]
   refine zvd fun j hj => ?_
   unfold upf
   split <;> rfl
  rwa [e] at ho
 ·exact (fs.old j hj).other hb (fs.own.ne (Objs.getA hj) Objs.getL (by omega))
theorem FD.push (S : ElD C E Mk v) (fs : FD E h0 h v5 n xs X ys F gs) (hk : k < n) {cs : List AVal} (hcs : cs.length = E.es) (hb : ((F k).length + 1) * E.bytes <= 140737488355328) (hl : (F k).length + 1 <= maxLen) {K : zQ}
  (hK : ∀ y h', FD E h0 h' v5 n xs X (upf ys k y) (upf F k (F k ++ [cs])) gs -> K y h') : A.newO h (some cs) fun i h => A.appW h E.es E.bytes (ys k) (.sl i 0 0 1 E.es 1) K := fun i hi => by
 have fg := fs.grow (zhw (zej cs) hi)
 refine (fg.yAt hk).appW2 (fg.own.zlp k (Objs.getA hk)) (M := [cs]) (R' := []) (SlX.lit (zbf ..) (by simpa using hcs) rfl (by simp) (by simp)) S.pos (by simpa using hb) (by simpa using hl) fun y h' h1 h2 h3 h4 h5 => ?_
 exact hK y h' (fg.turn hk h1 h2 h3 h4 (h5 _ _ (fg.old k hk)))
theorem ls_kp2 (hx : SlX h 1 x (zf0 n fun j => [xs j]) W) (hx' : SlX h' 1 x (zf0 n fun j => [xs j]) W) (hk : k < n) : Kp2 h h' (elp 1 x k 0) none := ⟨_, zjp hx hk, zjp hx' hk⟩
theorem dlat5 (S : ElD C E Mk v) (hx : SlX h0 1 x (zf0 n fun j => [xs j]) W) (fs : FD E h0 h v5 n xs X ys F gs) (hn : n <= 100000000) (hl : ∀ j, j < n -> (X j).length <= 4611686018427380000)
  (hgs : ∀ j, j < n -> gs j = ys j) (mX : ∀ j, j < n -> zkt Mk h0 j 0 (X j)) (mF : ∀ j i c, j < n -> i < (X j).length -> (F j)[i]? = some c -> Mk h0 (j : Int) (i : Int) c) (lF : ∀ j, j < n -> (X j).length <= (F j).length) (hq : ∀ h', h0.le h' -> Q (.bool true) h') : zd (zu.l15 E C Q x v5) [.int .i64 0] h := by
 refine zd.intro (fun t vs hh => ∃ k : Nat, k + t = n ∧ vs = [.int .i64 k] ∧ h.le hh) n ?_ ⟨0, by simp, by simp, za.le_refl h⟩
 rintro Y t vs hh ⟨k, ht, rfl, hle⟩ hY
 have fs1 := fs.grow hle
 have hx' := hx.mono fs1.own.le
 simp -dsimp [zkj hx']
 refine B.ze (fun hb => ?_) (fun hb => ?_) <;> simp -dsimp at hb ⊢
 ·refine zd.intro (fun t vs h2 => ∃ i : Nat, i + t = (X k).length ∧ vs = [.int .i64 i] ∧ h.le h2) (X k).length ?_ ⟨0, by simp, by simp, hle⟩
  rintro Z t' vs h3 ⟨i, hi, rfl, hle3⟩ hZ
  have f3 := fs.grow hle3
  have hx' := hx.mono f3.own.le
  have hold := (f3.old k hb).at_
  have hlk := hl k hb
  have hlx := hold.zj
  simp -dsimp [zgm hx' hb, zjp hx' hb, hlx]
  refine B.ze (fun hc => ?_) (fun hc => ?_) <;> simp -dsimp at hc ⊢
  ·have hyk := f3.yAt hb
   have hlF := lF k hb
   obtain ⟨c1, hc1⟩ := zdz (L := X k) (k := i) hc
   obtain ⟨c2, hc2⟩ := zdz (L := F k) (k := i) (by omega)
   have m1 := mX k hb i c1 hc1
   have m2 := mF k i c2 hb hc hc2
   rw [Nat.zero_add] at m1
   have e1 : V.idxS E.es (xs k) (.int .i64 (i : Int)) = some (elp E.es (xs k) i 0) := hold.idxN hc
   have e2 : V.idxS E.es (ys k) (.int .i64 (i : Int)) = some (elp E.es (ys k) i 0) := hyk.idxN (by omega)
   simp -dsimp only [zgm hx' hb, zjp hx' hb, e1, B.zi, B.zii]
   refine S.ld hold hc1 ?_
   refine S.call _ _ _ _ fun c4 h4 l4 o4 mk4 => ?_
   have f4 := f3.grow o4.le
   have hx4 := hx.mono f4.own.le
   refine keepD2 (ls_kp2 hx' hx4 hb) (S.kpt hold (hold.mono o4.le) hc1) ?_
   refine S.eq (S.mono f4.own.le m1) (mk4 h4 o4.is) ?_
   have e3 := zjp f4.gAt hb
   rw [hgs k hb] at e3
   have hyk4 := f4.yAt hb
   simp -dsimp [zgm f4.gAt hb, e3, e2]
   refine S.ld hyk4 hc2 ?_
   refine S.call _ _ _ _ fun c5 h5 l5 o5 mk5 => ?_
   have f5 := f4.grow o5.le
   refine keepD2 (ls_kp2 f4.gAt f5.gAt hb) (S.kpt hyk4 (f5.yAt hb) hc2) ?_
   simp -dsimp
   refine S.eq (S.mono f5.own.le m2) (mk5 h5 o5.is) ?_
   simp -dsimp [zf8 (n := i) (by omega)]
   exact hZ ((X k).length - (i + 1)) _ _ (by omega) ⟨i + 1, by omega, by simp, za.le_trans hle3 (za.le_trans o4.le o5.le)⟩
  ·simp -dsimp [zf8 (n := k) (by omega)]
   exact hY (n - (k + 1)) _ _ (by omega) ⟨k + 1, by omega, by simp, hle3⟩
 ·exact hq _ fs1.own.le
theorem dlat4 (S : ElD C E Mk v) (hx : SlX h0 1 x (zf0 n fun j => [xs j]) W) (fs : FD E h0 h v5 n xs X ys F gs) (hn : n <= 100000000) (hl : ∀ j, j < n -> (X j).length <= 4611686018427380000 ∧ ((X j).length + 64) * E.bytes <= 140737488355328)
  (hgs : ∀ j, j < n -> gs j = ys j) (mX : ∀ j, j < n -> zkt Mk h0 j 0 (X j)) (mF : ∀ j i c, j < n -> i < (X j).length -> (F j)[i]? = some c -> Mk h0 (j : Int) (i : Int) c) (lF : ∀ j, j < n -> (X j).length <= (F j).length) (hq : ∀ h', h0.le h' -> Q (.bool true) h') : zd (zu.l40 E C Q x v5) [.int .i64 0] h := by
 refine zd.intro (fun t vs hh => ∃ (k : Nat) (ys gs : Nat -> AVal) (F : Nat -> List (List AVal)), k + t = n ∧ vs = [.int .i64 k] ∧ FD E h0 hh v5 n xs X ys F gs ∧ (∀ j, j < n -> gs j = ys j) ∧ (∀ j i c, j < n -> i < (X j).length -> (F j)[i]? = some c -> Mk h0 (j : Int) (i : Int) c) ∧ ∀ j, j < n -> (X j).length <= (F j).length) n ?_
  ⟨0, ys, gs, F, by simp, by simp, fs, hgs, mF, lF⟩
 rintro Y t vs h ⟨k, ys, gs, F, ht, rfl, fs, hgs, mF, lF⟩ hY
 have hx' := hx.mono fs.own.le
 simp -dsimp [zkj hx']
 refine B.ze (fun hb => ?_) (fun hb => ?_) <;> simp -dsimp at hb ⊢
 ·have hlk := hl k hb
  have h64 : 64 * E.bytes <= 140737488355328 := Nat.le_trans (Nat.mul_le_mul_right _ (by omega)) hlk.2
  refine ⟨S.pos, (Owns.start h).mks (es := E.es) S.zlen (by omega) (by omega) (by omega) (by omega) fun y h1 ho1 => ?_⟩
  simp only [List.nil_append] at ho1
  refine zd.intro (fun t vs hh => ∃ (i : Nat) (hb0 : za) (M : List (List AVal)), i + t = 64 ∧ vs = [.int .i64 i] ∧ h.le hb0 ∧ M.length = i ∧ ∃ R, Owns hb0 hh [.sl E.es y (M ++ (zf0 64 fun _ => E.z).drop i) R]) 64 ?_ ⟨0, h, [], by simp, by simp, za.le_refl h, rfl, _, by simpa using ho1⟩
  rintro Z t' vs hh ⟨i, hb0, M, hi, rfl, hle0, hM, R, ho⟩ hZ
  simp -dsimp
  refine B.ze (fun hc => ?_) (fun hc => ?_) <;> simp -dsimp at hc ⊢
  ·have e1 : IntKind.i64.wrap ((k : Int) + n) = ((k + n : Nat) : Int) := by rw [wrap_i64 (by omega) (by omega)]; omega
   have hxx := hx'.mono (za.le_trans hle0 ho.le)
   have hi64 : i < (zf0 64 fun _ => E.z).length := by simp; omega
   have hlt : i < (M ++ (zf0 64 fun _ => E.z).drop i).length := by simp; omega
   simp -dsimp only [zkj hxx, B.zi, V.zep, e1]
   refine S.call _ _ _ _ fun c2 h2 l2 o2 mk2 => ?_
   obtain ⟨hb1, q1, q2, ho2, hat⟩ := ho.rebase o2
   simp -dsimp only [(ho2.slAt 0 rfl).idxN hlt, B.zi]
   have hget : (M ++ (zf0 64 fun _ => E.z).drop i)[i]? = some (zf0 64 fun _ => E.z)[i] := by
    rw [List.getElem?_append_right (by omega), hM, Nat.sub_self, List.getElem?_drop]; simp [hi64]
   refine S.st (ho2.slAt 0 rfl) (ho2.zlp 0 rfl) hget (mk2 h2 o2.is) fun h3 h4 h5 h6 => ?_
   have hset : (M ++ (zf0 64 fun _ => E.z).drop i).set i c2 = (M ++ [c2]) ++ (zf0 64 fun _ => E.z).drop (i + 1) := by
    rw [List.set_append_right _ _ (by omega), hM, Nat.sub_self, List.drop_eq_getElem_cons hi64, List.set_cons_zero, List.append_assoc]; rfl
   rw [hset] at h4
   simp -dsimp [zf8 (n := i) (by omega)]
   exact hZ (64 - (i + 1)) _ _ (by omega) ⟨i + 1, hb1, M ++ [c2], by omega, by simp, za.le_trans hle0 q1, by simp [hM], R, ho2.turn 0 rfl (o' := .sl E.es y _ R) h4 h5 h6 (.inl rfl)⟩
  ·have hi64 : i = 64 := by omega
   have hd : (zf0 64 fun _ => E.z).drop 64 = [] := List.drop_of_length_le (by simp)
   rw [hi64, hd, List.append_nil] at ho
   have fh := fs.grow (za.le_trans hle0 ho.le)
   have hold := fh.old k hb
   have hxx := hx'.mono (za.le_trans hle0 ho.le)
   simp -dsimp [zgm hxx hb, zjp hxx hb]
   refine hold.at_.appW2 (fun id b e1 e2 => ?_) (ho.slAt 0 rfl) S.pos (by rw [hM, hi64]; exact hlk.2) (by simp [maxLen, hM, hi64]; omega) fun y' h2 h3 h4 h5 h6 h7 => ?_
   ·rcases hold.ft with e | ⟨e, _⟩
    ·rw [e] at e1; cases e1
    ·rw [e] at e1; exact fh.own.zlp k (Objs.getA hb) id b e1 e2
   ·have f2 : FD E h0 h2 v5 n xs X (upf ys k y') (upf F k (X k ++ M)) gs := fh.turn hb h3 h4 (fun j b e1 e2 => h5 j b e1 fun e3 => by
      rcases hold.ft with e | ⟨e, _⟩
      ·rw [e] at e3; cases e3
      ·rw [e] at e3; exact e2 e3) (by
      rcases h6 with e | e
      ·rcases hold.ft with e' | ⟨e', _⟩
       ·exact .inr fun id hid => by rw [e, e'] at hid; cases hid
       ·exact .inl (e.trans e')
      ·exact .inr e) (h7 _ _ (Old.refl hold.at_))
    simp -dsimp [zgm f2.gAt hb]
    refine f2.store hb h3.zm fun h8 f3 => ?_
    simp -dsimp [zf8 (n := k) (by omega)]
    refine hY (n - (k + 1)) _ _ (by omega) ⟨k + 1, _, _, _, by omega, by simp, f3, fun j hj => ?_, fun j i c hj hi hc => ?_, fun j hj => ?_⟩
    ·by_cases e : j = k
     ·subst e; rw [zd5, zd5]
     ·rw [zg5 _ _ e, zg5 _ _ e]; exact hgs j hj
    ·by_cases e : j = k
     ·subst e
      rw [zd5, List.getElem?_append_left hi] at hc
      have := mX j hb i c hc
      rwa [Nat.zero_add] at this
     ·rw [zg5 _ _ e] at hc; exact mF j i c hj hi hc
    ·by_cases e : j = k
     ·subst e; rw [zd5]; simp
     ·rw [zg5 _ _ e]; exact lF j hj
 ·exact dlat5 S hx fs hn (fun j hj => (hl j hj).1) hgs mX mF lF hq
theorem dlat3 (S : ElD C E Mk v) (hx : SlX h0 1 x (zf0 n fun j => [xs j]) W) (fs : FD E h0 h v5 n xs X ys F gs) (hn : n <= 100000000) (hl : ∀ j, j < n -> (X j).length <= 4611686018427380000 ∧ ((X j).length + 64) * E.bytes <= 140737488355328)
  (hgs : ∀ j, j < n -> gs j = ys j) (mX : ∀ j, j < n -> zkt Mk h0 j 0 (X j)) (mF : ∀ j, j < n -> zkt Mk h0 j 0 (F j)) (lF : ∀ j, j < n -> (F j).length = (X j).length + 64) (hq : ∀ h', h0.le h' -> Q (.bool true) h') : zd (zu.l59 E C Q x v5) [.int .i64 0] h := by
 refine zd.intro (fun t vs hh => ∃ k : Nat, k + t = n ∧ vs = [.int .i64 k] ∧ h.le hh) n ?_ ⟨0, by simp, by simp, za.le_refl h⟩
 rintro Y t vs hh ⟨k, ht, rfl, hle⟩ hY
 have fs1 := fs.grow hle
 have hx' := hx.mono fs1.own.le
 simp -dsimp [zkj hx']
 refine B.ze (fun hb => ?_) (fun hb => ?_) <;> simp -dsimp at hb ⊢
 ·refine zd.intro (fun t vs h2 => ∃ i : Nat, i + t = (X k).length + 64 ∧ vs = [.int .i64 i] ∧ h.le h2) ((X k).length + 64) ?_ ⟨0, by simp, by simp, hle⟩
  rintro Z t' vs h3 ⟨i, hi, rfl, hle3⟩ hZ
  have f3 := fs.grow hle3
  have hx' := hx.mono f3.own.le
  have hold := (f3.old k hb).at_
  have hlk := (hl k hb).1
  have hlx := hold.zj
  have hyk := f3.yAt hb
  have hly := hyk.zj
  rw [lF k hb] at hly
  have e3 := zjp f3.gAt hb
  rw [hgs k hb] at e3
  simp -dsimp [zgm f3.gAt hb, e3, hly]
  refine B.ze (fun hc => ?_) (fun hc => ?_)
  ·have hc : i < (X k).length + 64 := by simp at hc; omega
   have hlF := lF k hb
   obtain ⟨c2, hc2⟩ := zdz (L := F k) (k := i) (by omega)
   have m2 := mF k hb i c2 hc2
   rw [Nat.zero_add] at m2
   have e2 : V.idxS E.es (ys k) (.int .i64 (i : Int)) = some (elp E.es (ys k) i 0) := hyk.idxN (by omega)
   simp -dsimp only [zgm f3.gAt hb, e3, e2, B.zi, B.zii]
   refine S.ld hyk hc2 ?_
   refine S.call _ _ _ _ fun c4 h4 l4 o4 mk4 => ?_
   have f4 := f3.grow o4.le
   have hx4 := hx.mono f4.own.le
   refine keepD2 (ls_kp2 f3.gAt f4.gAt hb) (S.kpt hyk (f4.yAt hb) hc2) ?_
   refine S.eq (S.mono f4.own.le m2) (mk4 h4 o4.is) ?_
   by_cases hd : i < (X k).length
   ·obtain ⟨c1, hc1⟩ := zdz (L := X k) (k := i) hd
    have m1 := mX k hb i c1 hc1
    rw [Nat.zero_add] at m1
    have hold4 := (f4.old k hb).at_
    have e1 : V.idxS E.es (xs k) (.int .i64 (i : Int)) = some (elp E.es (xs k) i 0) := hold.idxN hd
    simp -dsimp [zgm hx4 hb, zjp hx4 hb, hlx, hd, e1]
    refine S.ld hold4 hc1 ?_
    refine S.call _ _ _ _ fun c5 h5 l5 o5 mk5 => ?_
    have f5 := f4.grow o5.le
    refine keepD2 (ls_kp2 hx4 (hx.mono f5.own.le) hb) (S.kpt hold4 ((f5.old k hb).at_) hc1) ?_
    simp -dsimp
    refine S.eq (S.mono f5.own.le m1) (mk5 h5 o5.is) ?_
    simp -dsimp [zf8 (n := i) (by omega)]
    exact hZ ((X k).length + 64 - (i + 1)) _ _ (by omega) ⟨i + 1, by omega, by simp, za.le_trans hle3 (za.le_trans o4.le o5.le)⟩
   ·simp -dsimp [zgm hx4 hb, zjp hx4 hb, hlx, hd]
    simp -dsimp [zf8 (n := i) (by omega)]
    exact hZ ((X k).length + 64 - (i + 1)) _ _ (by omega) ⟨i + 1, by omega, by simp, za.le_trans hle3 o4.le⟩
  ·simp -dsimp [zf8 (n := k) (by omega)]
   exact hY (n - (k + 1)) _ _ (by omega) ⟨k + 1, by omega, by simp, hle3⟩
 ·exact dlat4 S (hx := hx) (fs := fs1) hn hl hgs mX (fun j i c hj hi hc => by have := mF j hj i c hc; rwa [Nat.zero_add] at this) (fun j hj => by rw [lF j hj]; omega) hq
theorem dlat2 (S : ElD C E Mk v) (hx : SlX h0 1 x (zf0 n fun j => [xs j]) W) (fs : FD E h0 h v5 n xs X xs X gs) (hn : n <= 100000000) (hl : ∀ j, j < n -> (X j).length <= 4611686018427380000 ∧ ((X j).length + 64) * E.bytes <= 140737488355328)
  (mX : ∀ j, j < n -> zkt Mk h0 j 0 (X j)) (hq : ∀ h', h0.le h' -> Q (.bool true) h') : zd (zu.l82 E C Q x v5) [.int .i64 0] h := by
 refine zd.intro (fun t vs hh => ∃ (k : Nat) (hb0 : za) (ys gs : Nat -> AVal) (F : Nat -> List (List AVal)), k + t = n ∧ vs = [.int .i64 k] ∧ h0.le hb0 ∧ FD E hb0 hh v5 n xs X ys F gs ∧ (∀ j, j < k -> gs j = ys j ∧ zkt Mk hb0 j 0 (F j) ∧ (F j).length = (X j).length + 64) ∧ ∀ j, k <= j -> ys j = xs j ∧ F j = X j) n ?_
  ⟨0, h0, _, gs, _, by simp, by simp, za.le_refl h0, fs, by simp, fun j _ => ⟨rfl, rfl⟩⟩
 rintro Y t vs h ⟨k, hb0, ys, gs, F, ht, rfl, hle0, fs, hlo, hhi⟩ hY
 have hx0 := hx.mono hle0
 have hx' := hx0.mono fs.own.le
 simp -dsimp [zkj hx']
 refine B.ze (fun hb => ?_) (fun hb => ?_) <;> simp -dsimp at hb ⊢
 ·have hk := hhi k (Nat.le_refl k)
  have hlk := hl k hb
  simp -dsimp [zgm hx' hb, zjp hx' hb]
  refine zd.intro (fun t vs hh => ∃ (i : Nat) (y : AVal) (hb1 : za) (M : List (List AVal)), i + t = 64 ∧ vs = [y, .int .i64 i] ∧ hb0.le hb1 ∧ M.length = i ∧ zkt Mk hb1 k (X k).length M ∧ FD E hb1 hh v5 n xs X (upf ys k y) (upf F k (X k ++ M)) gs) 64 ?_ ⟨0, xs k, hb0, [], by simp, by simp, za.le_refl hb0, rfl, zkt.nil _ _ _ _, ?_⟩
  ·rintro Z t' vs hh ⟨i, y, hb1, M, hi, rfl, hle1, hM, mM, f1⟩ hZ
   have hx1 := (hx0.mono hle1).mono f1.own.le
   have hold := (f1.old k hb).at_
   have hlx := hold.zj
   have ey : upf ys k y k = y := zd5 ..
   simp -dsimp
   refine B.ze (fun hc => ?_) (fun hc => ?_) <;> simp -dsimp at hc ⊢
   ·have e1 : IntKind.i64.wrap (((X k).length : Int) + i) = (((X k).length + i : Nat) : Int) := by rw [wrap_i64 (by omega) (by omega)]; omega
    simp -dsimp only [zgm hx1 hb, zjp hx1 hb, hlx, B.zi, B.zii, V.zep, e1]
    refine S.call _ _ _ _ fun c2 h2 l2 o2 mk2 => ?_
    obtain ⟨hb2, q1, q2, f2, hat⟩ := f1.rebase o2
    have mc := mk2 hb2 hat
    rw [S.new mc]
    have hbound : ((X k).length + i + 1) * E.bytes <= 140737488355328 := Nat.le_trans (Nat.mul_le_mul_right _ (by omega)) hlk.2
    have := f2.push S hb (cs := c2) (S.len mc) (by rw [zd5, List.length_append, hM]; exact hbound) (by rw [zd5, List.length_append, hM]; simp [maxLen]; omega) (K := fun v68 h => B.pv (V.bin .add (.int .i64 (i : Int)) (.int .i64 1)) fun v56 => Z [v68, v56] h) fun y' h3 f3 => ?_
    ·rw [ey] at this; exact this
    ·simp -dsimp [zf8 (n := i) (by omega)]
     refine hZ (64 - (i + 1)) _ _ (by omega) ⟨i + 1, y', hb2, M ++ [c2], by omega, by simp, za.le_trans hle1 q1, by simp [hM], (mM.mono S q1).snoc (by rw [hM]; exact mc), ?_⟩
     rw [zpk, zpk, zd5, List.append_assoc] at f3
     exact f3
   ·have hi64 : i = 64 := by omega
    subst hi64
    simp -dsimp [zgm f1.gAt hb]
    have hyc := (f1.yAt hb).zm
    rw [ey] at hyc
    refine f1.store hb hyc fun h2 f2 => ?_
    simp -dsimp [zf8 (n := k) (by omega)]
    have hle2 := za.le_trans hle0 hle1
    refine hY (n - (k + 1)) _ _ (by omega) ⟨k + 1, hb1, _, _, _, by omega, by simp, hle2, f2, fun j hj => ?_, fun j hj => ?_⟩
    ·by_cases e : j = k
     ·subst e; rw [zd5, zd5, zd5]
      refine ⟨rfl, ?_, by rw [List.length_append, hM]⟩
      refine ((mX j hb).mono S hle2).append ?_
      rw [Nat.zero_add]; exact mM
     ·rw [zg5 _ _ e, zg5 _ _ e, zg5 _ _ e]
      have := hlo j (by omega)
      exact ⟨this.1, this.2.1.mono S hle1, this.2.2⟩
    ·rw [zg5 _ _ (by omega), zg5 _ _ (by omega)]; exact hhi j (by omega)
  ·have e1 : upf ys k (xs k) = ys := by rw [<- hk.1, zjk]
   have e2 : upf F k (X k ++ []) = F := by rw [List.append_nil, <- hk.2, zjk]
   rw [e1, e2]; exact fs
 ·have : k = n := by omega
  subst this
  exact dlat3 S hx0 fs hn hl (fun j hj => (hlo j hj).1) (fun j hj => (mX j hj).mono S hle0) (fun j hj => (hlo j hj).2.1) (fun j hj => (hlo j hj).2.2) fun h' hle => hq h' (za.le_trans hle0 hle)
theorem zwy (S : ElD C E Mk v) {D R : Nat -> List (List AVal)} (hx : SlX h0 1 x (zf0 n fun j => [xs j]) W) (ho : Owns h0 h (Objs E.es n xs D R)) (hn : n <= 100000000) (hl : ∀ j, j < n -> (D j).length <= 4611686018427380000 ∧ ((D j).length + 64) * E.bytes <= 140737488355328)
  (hq : ∀ h', h0.le h' -> Q (.bool true) h') : zu E C x h Q := by
 refine zd.intro (fun t vs hh => ∃ (k : Nat) (hb0 : za) (G : Nat -> List (List AVal)), k + t = n ∧ vs = [.int .i64 k] ∧ h0.le hb0 ∧ Owns hb0 hh (Objs E.es n xs G R) ∧ (∀ j, j < k -> zkt Mk hb0 j 0 (G j) ∧ (G j).length = (D j).length) ∧ ∀ j, k <= j -> G j = D j) n ?_
  ⟨0, h0, D, by simp, by simp, za.le_refl h0, ho, by simp, fun j _ => rfl⟩
 rintro Y t vs h ⟨k, hb0, G, ht, rfl, hle0, ho, hlo, hhi⟩ hY
 have hx0 := hx.mono hle0
 have hx' := hx0.mono ho.le
 simp -dsimp [zkj hx']
 refine B.ze (fun hb => ?_) (fun hb => ?_) <;> simp -dsimp at hb ⊢
 ·have hlk := (hl k hb).1
  have hgk := hhi k (Nat.le_refl k)
  refine zd.intro (fun t vs hh => ∃ (i : Nat) (hb1 : za) (M : List (List AVal)), i + t = (D k).length ∧ vs = [.int .i64 i] ∧ hb0.le hb1 ∧ M.length = i ∧ zkt Mk hb1 k 0 M ∧ Owns hb1 hh (Objs E.es n xs (upf G k (M ++ (D k).drop i)) R)) (D k).length ?_ ⟨0, hb0, [], by simp, by simp, za.le_refl hb0, rfl, zkt.nil _ _ _ _, ?_⟩
  ·rintro Z t' vs hh ⟨i, hb1, M, hi, rfl, hle1, hM, mM, ho1⟩ hZ
   have hx1 := (hx0.mono hle1).mono ho1.le
   have hxk := ho1.slAt k (Objs.get hb)
   rw [zd5] at hxk
   have hlx := hxk.zj
   have hll : (M ++ (D k).drop i).length = (D k).length := by simp; omega
   rw [hll] at hlx
   simp -dsimp [zgm hx1 hb, zjp hx1 hb, hlx]
   refine B.ze (fun hc => ?_) (fun hc => ?_) <;> simp -dsimp at hc ⊢
   ·have hlt : i < (M ++ (D k).drop i).length := by omega
    simp -dsimp only [zgm hx1 hb, zjp hx1 hb, B.zi, B.zii]
    refine S.call _ _ _ _ fun c2 h2 l2 o2 mk2 => keepD1 (ls_kp2 hx1 (hx1.mono o2.le) hb) ?_
    obtain ⟨hb2, q1, q2, ho2, hat⟩ := ho1.rebase o2
    have hxk2 := ho2.slAt k (Objs.get hb)
    rw [zd5] at hxk2
    simp -dsimp only [hxk2.idxN hlt, B.zi]
    have hget : (M ++ (D k).drop i)[i]? = some (D k)[i] := by
     rw [List.getElem?_append_right (by omega), hM, Nat.sub_self, List.getElem?_drop]; simp [hc]
    refine S.st hxk2 (ho2.zlp k (Objs.get hb)) hget (mk2 h2 o2.is) fun h3 h4 h5 h6 => ?_
    have hset : (M ++ (D k).drop i).set i c2 = (M ++ [c2]) ++ (D k).drop (i + 1) := by
     rw [List.set_append_right _ _ (by omega), hM, Nat.sub_self, List.drop_eq_getElem_cons hc, List.set_cons_zero, List.append_assoc]; rfl
    rw [hset] at h4
    have h7 := ho2.turn k (Objs.get hb) (o' := .sl E.es (xs k) _ (R k)) h4 h5 h6 (.inl rfl)
    rw [Objs.set, zjk, zjk, zpk] at h7
    simp -dsimp [zf8 (n := i) (by omega)]
    exact hZ ((D k).length - (i + 1)) _ _ (by omega) ⟨i + 1, hb2, M ++ [c2], by omega, by simp, za.le_trans hle1 q1, by simp [hM], (mM.mono S q1).snoc (by rw [Nat.zero_add, hM]; exact mk2 hb2 hat), h7⟩
   ·have hie : i = (D k).length := by omega
    rw [hie, List.drop_length, List.append_nil] at ho1
    simp -dsimp [zf8 (n := k) (by omega)]
    refine hY (n - (k + 1)) _ _ (by omega) ⟨k + 1, hb1, _, by omega, by simp, za.le_trans hle0 hle1, ho1, fun j hj => ?_, fun j hj => ?_⟩
    ·by_cases e : j = k
     ·subst e; rw [zd5]; exact ⟨mM, by omega⟩
     ·rw [zg5 _ _ e]
      have := hlo j (by omega)
      exact ⟨this.1.mono S hle1, this.2⟩
    ·rw [zg5 _ _ (by omega)]; exact hhi j (by omega)
  ·simp only [List.nil_append, List.drop_zero]
   rw [<- hgk, zjk]; exact ho
 ·have : k = n := by omega
  subst this
  simp -dsimp only [zkj hx', B.zi]
  refine ⟨Nat.one_pos, ?_⟩
  refine ho.mks (bytes := 24) (es := 1) (n := k) (c := k) (z := [.nils]) rfl (by omega) (by omega) (by omega) (by omega) fun y h1 ho1 => ?_
  have e1 : ((k : Int)).toNat = k := by simp
  rw [e1, Nat.sub_self, zsl] at ho1
  have ho2 := ho1.cutR
  exact dlat2 S hx0 ⟨ho2, fun j hj => Old.refl (ho2.slAt j (Objs.getA hj))⟩ hn (fun j hj => by rw [(hlo j hj).2]; exact hl j hj) (fun j hj => (hlo j hj).1) fun h' hle => hq h' (za.le_trans hle0 hle)
end
end Go.Ab
set_option maxRecDepth 100000
namespace Go.Ab
variable {C : CSem} {N : zN}
theorem elD {es bytes f g : Nat} {z : List AVal} {m : Int -> Int -> List AVal} (hes : 0 < es) (hm : ∀ k i, (m k i).length = es) (hz : z.length = es) (hb : bytes <= 1000) (s1 : ∀ (k i : Int) (h : za) (Q : zQ), Q (.agg (m k i)) h -> C f [.int .i64 k, .int .i64 i] h Q)
  (s2 : ∀ (k i : Int) (h : za) (Q : zQ), Q (.bool true) h -> C g [.agg (m k i), .agg (m k i)] h Q) :
  zs9 C (opsD C es bytes z f g) m (fun k i => .agg (m k i)) where
 pos := hes
 small := hb
 len _ _ := hm _ _
 zlen := hz
 new k i := by
  have hrep : repL 1 z = z := by unfold repL; split <;> simp
  have h1 := hm k i
  show zc0 [(0, some es, AVal.agg (m k i))] (repL 1 z) = _
  rw [hrep]
  simp [h1, hz]
 call := s1
 ld hs hc hk := by
  simp only [opsD, B.zk3] at hs ⊢
  rw [hs.elem hc]; exact hk
 kpt hs hc := ⟨_, hs.elem hc⟩
 st {h x L R i c k j K} hs hown hc hk := by
  refine hs.stn hown hc (hm _ _) (by simp [opsD]) ?_
  have hcl := hs.len c (List.mem_append_left _ (List.mem_of_getElem? hc))
  have e : c.take 0 ++ m k j ++ c.drop (0 + es) = m k j := by
   have : c.length = es := hcl
   simp [this]
  rw [e]; exact hk
 eq hk := s2 _ _ _ _ hk
theorem zdk.eq_iff (t u : zdk) : t = u ↔ (((((t.Err = u.Err ∧ t.Id = u.Id) ∧ t.Day = u.Day) ∧ t.Code = u.Code) ∧ t.State = u.State) ∧ t.Lots = u.Lots) ∧ t.Uses = u.Uses := by
 cases t; cases u; simp only [zdk.mk.injEq, and_assoc]
def zc3.Spec (C : CSem) (N : zN) : Prop := ∀ (t u : zdk) (x y z w : AVal) (h : za) (Q : zQ), zin h t x y -> zin h u z w -> t.Lots.length < 4611686018427387904 -> t.Uses.length < 4611686018427387904 -> Q (.bool (decide (t = u))) h -> C (N 42) [.agg (t.cs x y), .agg (u.cs z w)] h Q
theorem zc3.spec (i : zc3.Imp C N) (s1 : zc4.Spec C N) (s2 : zc9.Spec C N) : zc3.Spec C N := by
 intro t u x y z w h Q ht hu h1 h2 hq
 obtain ⟨⟨R1, a1⟩, ⟨S1, b1⟩⟩ := ht
 obtain ⟨⟨R2, a2⟩, ⟨S2, b2⟩⟩ := hu
 apply i
 simp +contextual -dsimp [u8_eq]
 refine B.zee (fun _ _ hq => s1 x z _ _ _ _ _ _ a1 a2 h1 hq) ?_
 simp +contextual -dsimp
 refine B.zee (fun _ _ hq => s2 y w _ _ _ _ _ _ b1 b2 h2 hq) ?_
 simp +contextual -dsimp
 have e : decide (t = u) = (decide (t.Err = u.Err) && decide (t.Id = u.Id) && decide (t.Day = u.Day) && decide (t.Code = u.Code) && decide (t.State = u.State) && decide (t.Lots = u.Lots) && decide (t.Uses = u.Uses)) := by
  rw [Bool.eq_iff_iff]; simp [zdk.eq_iff]
 rw [e] at hq
 exact zk hq
def zds.Spec (C : CSem) (N : zN) : Prop := ∀ (t : zdk) (x y : AVal) (h : za) (Q : zQ), zin h t x y -> t.Lots.length <= 100000000 -> t.Uses.length <= 100000000 ->
 (∀ x' y' h', Owns h h' [.sl 6 x' (t.Lots.map Lot.cs) zrd, .sl 3 y' (t.Uses.map Use.cs) zrc] -> Q (.agg (t.cs x' y')) h') -> C (N 27) [.agg (t.cs x y)] h Q
theorem zds.spec (i : zds.Imp C N) (s1 : zdb.Spec C N) (s2 : zda.Spec C N) : zds.Spec C N := by
 intro t x y h Q ht h1 h2 hq
 obtain ⟨⟨R1, a1⟩, ⟨S1, b1⟩⟩ := ht
 apply i
 simp +contextual -dsimp
 refine s1 x _ _ _ _ a1 h1 fun x' ha oa => ?_
 have hcx := (oa.slAt 0 rfl).zm
 simp +contextual -dsimp [hcx]
 refine s2 y _ _ _ _ (b1.mono oa.le) h2 fun y' hb ob => ?_
 have hcy := (ob.slAt 0 rfl).zm
 simp +contextual -dsimp [hcy]
 exact zk (hq x' y' hb (oa.join ob))
structure zmd (h : za) (t : zdk) (x y : AVal) : Prop where
 lots : SlX h 6 x (t.Lots.map Lot.cs) zrd
 uses : SlX h 3 y (t.Uses.map Use.cs) zrc
theorem zmd.at_ {h : za} {t : zdk} {x y : AVal} (a : zmd h t x y) : zin h t x y := ⟨⟨_, a.lots⟩, ⟨_, a.uses⟩⟩
theorem zmd.mono {h H : za} {t : zdk} {x y : AVal} (a : zmd h t x y) (hle : h.le H) : zmd H t x y := ⟨a.lots.mono hle, a.uses.mono hle⟩
def zdt.Spec (C : CSem) (N : zN) : Prop := ∀ (t u : zdk) (x y z w : AVal) (h : za) (Q : zQ), zmd h t x y -> zin h u z w -> t.Lots.length <= 100000000 -> t.Uses.length <= 100000000 -> Q (.bool (decide (t = u))) h -> C (N 30) [.agg (t.cs x y), .agg (u.cs z w)] h Q
theorem zdt.spec (i : zdt.Imp C N) (s0 : zc3.Spec C N) (s1 : zcs.Spec C N) (s2 : zcr.Spec C N) : zdt.Spec C N := by
 intro t u x y z w h Q ht hu h1 h2 hq
 have hu' := hu
 obtain ⟨⟨R2, a2⟩, ⟨S2, b2⟩⟩ := hu
 apply i
 simp +contextual -dsimp
 refine s0 t u x y z w _ _ ht.at_ hu' (by omega) (by omega) ?_
 simp +contextual -dsimp
 refine B.zee (fun _ _ hq => s1 x z _ _ _ _ _ ht.lots a2 h1 hq) ?_
 simp +contextual -dsimp
 refine B.zee (fun _ _ hq => s2 y w _ _ _ _ _ ht.uses b2 h2 hq) ?_
 simp +contextual -dsimp
 have e : decide (t = u) = (decide (t = u) && decide (t.Lots = u.Lots) && decide (t.Uses = u.Uses)) := by
  rw [Bool.eq_iff_iff]; simp [zdk.eq_iff]
  intros; simp_all
 rw [e] at hq
 exact zk hq
def zdq.Spec (C : CSem) (N : zN) : Prop := ∀ (t : zdk) (x y : AVal) (h0 h : za) (Q : zQ), Owns h0 h [.sl 6 x (t.Lots.map Lot.cs) zrd, .sl 3 y (t.Uses.map Use.cs) zrc] -> t.Lots.length <= 100000000 -> t.Uses.length <= 100000000 ->
 (∀ h', h0.le h' -> Q (.tup []) h') -> C (N 31) [.agg (t.cs x y)] h Q
theorem zdq.spec (i : zdq.Imp C N) (s1 : zdr.Spec C N) (s2 : zdp.Spec C N) : zdq.Spec C N := by
 intro t x y h0 h Q ho h1 h2 hq
 apply i
 obtain ⟨q1, q2⟩ := (ho.perm (List.Perm.swap ..)).out (l1 := [_]) (l2 := [_])
 simp +contextual -dsimp
 refine s1 _ _ x _ _ _ q2 (by simp) (by simpa using h1) fun h3 le3 => ?_
 simp +contextual -dsimp
 refine s2 _ _ y _ _ _ (q1.grow le3) (by simp) (by simpa using h2) fun h4 le4 => ?_
 exact zk (hq _ le4)
def zn0 (k i : Int) : zdk := ⟨0, mark k i, 0, [], 0, [], []⟩
def zdn.Spec (C : CSem) (N : zN) : Prop := ∀ (k i : Int) (h : za) (Q : zQ), Q (.agg ((zn0 k i).cs .nils .nils)) h -> C (N 114) [.int .i64 k, .int .i64 i] h Q
theorem zdn.spec (i : zdn.Imp C N) (s1 : zf4.Spec C N) : zdn.Spec C N := by
 intro k j h Q hq
 apply i
 simp +contextual -dsimp
 refine s1 _ _ _ _ ?_
 simp +contextual -dsimp
 exact zk hq
theorem zt.spec (i : zt.Imp C N) (s1 : zdn.Spec C N) (s2 : zc3.Spec C N) : zhm C 7 (N 93) := fun t h0 h Q ht ho hq =>
 i t.x h Q (zsk (elD (m := fun k i => (zn0 k i).cs .nils .nils) (bytes := 96) (by omega) (fun _ _ => rfl) rfl (by omega) s1 (fun k i h Q hq => s2 (zn0 k i) (zn0 k i) _ _ _ _ _ _ ⟨⟨_, SlX.nils h 6⟩, ⟨_, SlX.nils h 3⟩⟩ ⟨⟨_, SlX.nils h 6⟩, ⟨_, SlX.nils h 3⟩⟩ (by simp [zn0]) (by simp [zn0]) (by simpa using hq))) ht.is ho ht.n_le ht.zmi fun h' hle => zk (hq h' hle))
end Go.Ab
set_option maxRecDepth 100000
namespace Go.Ab
variable {C : CSem} {N : zN}
abbrev sing (v : AVal) : List AVal := [v]
def zme (h hh : za) (id : Nat) (B : Nat -> List AVal) : Prop := ∃ xs : Nat -> AVal, Owns h hh (Objs 1 23 xs (fun i => (B i).map sing) (fun _ => []) ++ [.box (.ptr id 0 0) (fill 23 xs)])
theorem Owns.nilObjs {h0 h : za} {l : List Ob} (ho : Owns h0 h l) (es n : Nat) : Owns h0 h (Objs es n (fun _ => .nils) (fun _ => []) (fun _ => []) ++ l) := by
 have mem : ∀ o ∈ Objs es n (fun _ => AVal.nils) (fun _ => []) (fun _ => []), o = .sl es .nils [] [] := fun o hm => by
  obtain ⟨j, _, rfl⟩ := List.mem_map.1 hm; rfl
 refine ⟨ho.le, fun o hm => ?_, fun o hm => ?_, List.pairwise_append.2 ⟨?_, ho.apart, fun a ha b _ id hf => by rw [mem a ha] at hf; cases hf⟩⟩
 ·rcases List.mem_append.1 hm with hm | hm
  ·rw [mem o hm]; exact SlX.nils h es
  ·exact ho.is o hm
 ·rcases List.mem_append.1 hm with hm | hm
  ·intro id hf; rw [mem o hm] at hf; cases hf
  ·exact ho.own o hm
 ·rw [List.pairwise_iff_forall_sublist]
  intro a b hs id hf
  rw [mem a (hs.subset (by simp))] at hf; cases hf
theorem zme.start {h : za} {id : Nat} (hid : h id = none) : zme h (upd h id (zej (fill 23 fun _ => .nils))) id fun _ => [] := by
 refine ⟨fun _ => .nils, ?_⟩
 have := ((Owns.start h).zlr hid (fill 23 fun _ => .nils)).nilObjs 1 23
 simpa using this
def putG (k : Nat) (v0 v1 : AVal) (h : za) (Q : zQ) : Prop :=
 B.nilCheck v0 fun v6 =>
  B.pv (V.fieldAddr k v6) fun v7 =>
  B.ld h v7 fun v8 =>
  B.newO h (zc0 [(0, none, v1)] (repL 1 [.nils])) fun i10 h =>
  B.appW h 1 24 v8 (.sl i10 0 0 1 1 1) fun v11 h =>
  B.nilCheck v0 fun v12 =>
  B.pv (V.fieldAddr k v12) fun v13 =>
  B.st h v13 v11 fun h =>
  Q (.tup []) h
theorem zq1 {k : Nat} (hk : k < 23) {h hh : za} {id : Nat} {B : Nat -> List AVal} {y : AVal} {Q : zQ} (hb : zme h hh id B) (hy : y.zm = true) (hl : (B k).length <= 100000000) (hq : ∀ h', zme h h' id (upf B k (B k ++ [y])) -> Q (.tup []) h') : putG k (.ptr id 0 0) y hh Q := by
 obtain ⟨xs, ho⟩ := hb
 obtain ⟨id', e, hbx⟩ := ho.zgr 23 Objs.getL
 cases e
 have e1 : A.ldv hh (.ptr id 0 k) = some (xs k) := by rw [zd3 hbx, ztz _ hk]
 have hrep : repL 1 [AVal.nils] = [AVal.nils] := rfl
 simp -dsimp [putG, e1, hrep, hy]
 refine ho.push k (Objs.getA hk) rfl (by omega) (by simp; omega) (by simp [maxLen]; omega) fun x' h1 ho1 _ => ?_
 rw [Objs.setA hk, zqw] at ho1
 have hcx := (ho1.slAt k (Objs.getA hk)).zm
 rw [zd5] at hcx
 simp -dsimp
 refine ho1.zm0 23 Objs.getL hcx (by simpa using hk) fun h2 ho2 _ => ?_
 rw [Objs.setL, fill_set] at ho2
 refine hq h2 ⟨upf xs k x', ?_⟩
 have e2 : upf (fun i => (B i).map sing) k ((B k).map sing ++ [[y]]) = fun i => (upf B k (B k ++ [y]) i).map sing := by
  funext i; unfold upf; split
  ·rename_i e; subst e; simp
  ·rfl
 rw [e2] at ho2
 exact ho2
section
variable {h0 h : za} {id : Nat} {B : Nat -> List AVal} {D R : Nat -> Nat -> List (List AVal)} {xs : Nat -> AVal} {Q : zQ}
end
end Go.Ab
set_option maxRecDepth 100000
namespace Go.Ab
variable {C : CSem} {N : zN}
def zji (C : CSem) (k g : Nat) : Prop := ∀ (h hh : za) (id : Nat) (B : Nat -> List AVal) (y : AVal) (Q : zQ), zme h hh id B -> y.zm = true -> (B k).length <= 100000000 -> (∀ h', zme h h' id (upf B k (B k ++ [y])) -> Q (.tup []) h') -> C g [.ptr id 0 0, y] hh Q
@[simp] def zpe.k1 (C : CSem) (fp fa : Nat) (Q : zQ) (Y1 : zL) (v0 v3 v4 : AVal) (h : za) : Prop :=
 B.pv (V.zj v0) fun v9 =>
  B.pv (V.bin .lss v4 v9) fun v10 =>
  B.cond v10
  (B.pv (V.idxS 1 v0 v4) fun v16 =>
  B.ld h v16 fun v17 =>
  B.call C fp [v3, v17] h fun v18 h =>
  B.pv (V.bin .add v4 (.int .i64 1)) fun v12 =>
  Y1 [v12] h)
  (B.call C fa [v3] h fun v20 h =>
  Q v20 h)
@[simp] def zpe.l2 (C : CSem) (fp fa : Nat) (Q : zQ) (v0 v3 : AVal) : zG
 | [v4], h, Y1 => zpe.k1 C fp fa Q Y1 v0 v3 v4 h
 | _, _, _ => False
def zpe (C : CSem) (fp fa : Nat) (v0 : AVal) (h : za) (Q : zQ) : Prop :=
 B.pv (A.bld [] [.nils, .nils, .nils, .nils, .nils, .nils, .nils, .nils, .nils, .nils, .nils, .nils, .nils, .nils, .nils, .nils, .nils, .nils, .nils, .nils, .nils, .nils, .nils]) fun v5 =>
  B.newO h (A.zjr 23 v5) fun i6 h =>
  zd (zpe.l2 C fp fa Q v0 (.ptr i6 0 0)) [(.int .i64 0)] h
theorem zme.le {h hh : za} {id : Nat} {B : Nat -> List AVal} (hb : zme h hh id B) : h.le hh := by obtain ⟨_, ho⟩ := hb; exact ho.le
@[simp] theorem Objs_zero {es : Nat} {xs : Nat -> AVal} {D R : Nat -> List (List AVal)} : Objs es 0 xs D R = [] := rfl
theorem zcx.spec (i : zcx.Imp C N) : zji C 4 (N 63) := fun h hh id B y Q hb hy hl hq => i _ _ hh Q (zq1 (k := 4) (by omega) hb hy hl fun h' hb' => zk (hq h' hb'))
theorem zc6.spec (i : zc6.Imp C N) : zji C 6 (N 130) := fun h hh id B y Q hb hy hl hq => i _ _ hh Q (zq1 (k := 6) (by omega) hb hy hl fun h' hb' => zk (hq h' hb'))
theorem zc5.spec (i : zc5.Imp C N) : zji C 8 (N 131) := fun h hh id B y Q hb hy hl hq => i _ _ hh Q (zq1 (k := 8) (by omega) hb hy hl fun h' hb' => zk (hq h' hb'))
end Go.Ab
set_option maxRecDepth 100000
namespace Go.Ab
variable {C : CSem} {N : zN}
structure LL.okL (lim : Nat) (t : LL) (h0 : za) : Prop where
 is : SlX h0 1 t.x (zf0 t.n fun j => [t.xs j]) t.W
 n_le : t.n <= 100000000
 zmi : ∀ j, j < t.n -> (t.D j).length <= lim
def zi9 (C : CSem) (es lim g : Nat) : Prop := ∀ (t : LL) (h0 h : za) (Q : zQ), t.okL lim h0 -> Owns h0 h (t.obs es) -> (∀ h', h0.le h' -> Q (.bool true) h') -> C g [t.x] h Q
theorem elDF {T Ad : Type} [DecidableEq T] (K : DK T Ad) {f g : Nat} {mk : Int -> Int -> T} (hmk : ∀ k i, K.ok (mk k i)) (s1 : MarkE K mk C f) (s2 : SameE K C g) :
  ElD C (opsD C K.n K.bytes K.z f g) (fun h k i c => ∃ a, c = K.cells (mk k i) a ∧ K.at_ h (mk k i) a) AVal.agg where
 pos := K.pos
 zlen := K.zlen
 len := by rintro h k i c ⟨a, rfl, _⟩; exact K.len _ a
 mono := by rintro h h' k i c hle ⟨a, rfl, ha⟩; exact ⟨a, rfl, K.mono hle ha⟩
 new := by rintro h k i c ⟨a, rfl, _⟩; exact zrn K _ a
 call k i h Q hq := s1 k i h Q fun a h' o => hq _ h' _ o fun h1 ha => ⟨a, rfl, K.zv0 (hmk k i) ha⟩
 ld hs hc hk := by
  simp only [opsD, B.zk3] at hs ⊢
  rw [hs.elem hc]; exact hk
 kpt hs hs' hc := ⟨_, hs.elem hc, hs'.elem hc⟩
 st := by
  rintro h x L R i c c0 k j Q hs hown hc0 ⟨a, rfl, ha⟩ hk
  have hs' : SlX h K.n x L R := hs
  refine hs'.stn hown hc0 (K.len _ a) (by simp) ?_
  have hcl : c0.length = K.n := hs'.len c0 (List.mem_append_left _ (List.mem_of_getElem? hc0))
  have e : c0.take 0 ++ K.cells (mk k j) a ++ c0.drop (0 + K.n) = K.cells (mk k j) a := by simp [hcl]
  rw [e]; exact hk
 eq := by
  rintro h k i c c' Q ⟨a, rfl, ha⟩ ⟨b, rfl, hb⟩ hk
  refine s2 _ _ _ _ _ _ ha hb ?_
  rw [decide_eq_true rfl]; exact hk
theorem elDB {f : Nat} (s1 : ∀ (k i : Int) (h : za) (Q : zQ), Q (.int .u8 ((zgu k i).toNat : Int)) h -> C f [.int .i64 k, .int .i64 i] h Q) : ElD C (opsS 1 (.int .u8 0) f) (fun _ k i c => c = bc (zgu k i)) (fun c => c.headD .nils) where
 pos := Nat.one_pos
 zlen := rfl
 len := by rintro h k i c rfl; rfl
 mono := fun _ h => h
 new := by
  rintro h k i c rfl
  show zc0 [(0, none, AVal.int .u8 ((zgu k i).toNat : Int))] (repL 1 [.int .u8 0]) = some [AVal.int .u8 ((zgu k i).toNat : Int)]
  simp [repL]
 call k i h Q hq := s1 k i h Q (hq (bc (zgu k i)) h [] (Owns.start h) fun _ _ => rfl)
 ld {h x L R i c K} hs hc hk := by
  have hs' : SlX h 1 x L R := hs
  have hcl : c.length = 1 := hs'.len c (List.mem_append_left _ (List.mem_of_getElem? hc))
  obtain ⟨u, rfl⟩ := List.length_eq_one_iff.1 hcl
  simp only [opsS, B.zii] at hs ⊢
  rw [hs'.cell hc]; exact hk
 kpt {h h' x L R i c} hs hs2 hc := by
  have hs' : SlX h 1 x L R := hs
  have hcl : c.length = 1 := hs'.len c (List.mem_append_left _ (List.mem_of_getElem? hc))
  obtain ⟨u, rfl⟩ := List.length_eq_one_iff.1 hcl
  exact ⟨_, hs'.cell hc, SlX.cell hs2 hc⟩
 st := by
  rintro h x L R i c c0 k j Q hs hown hc0 rfl hk
  have hs' : SlX h 1 x L R := hs
  have hcl : c0.length = 1 := hs'.len c0 (List.mem_append_left _ (List.mem_of_getElem? hc0))
  obtain ⟨u, rfl⟩ := List.length_eq_one_iff.1 hcl
  exact hs'.st hown hc0 (by omega) rfl hk
 eq := by
  rintro h k i c c' Q rfl rfl hk
  show B.pv (V.bin .eql (AVal.int .u8 ((zgu k i).toNat : Int)) (AVal.int .u8 ((zgu k i).toNat : Int))) fun v => Q v h
  simp only [V.zvq, decide_true, B.zi]; exact hk
theorem zeu.spl (i : zeu.Imp C N) (s1 : zcq.Spec C N) : zi9 C 1 140737488351232 (N 84) := fun t h0 h Q ht ho hq =>
 i t.x h Q (zwy (elDB s1) ht.is ho ht.n_le (fun j hj => by have := ht.zmi j hj; exact ⟨by omega, by simp [opsS]; omega⟩) fun h' hle => zk (hq h' hle))
theorem flatD_spec {T Ad : Type} [DecidableEq T] (K : DK T Ad) {f g : Nat} {mk : Int -> Int -> T} (hmk : ∀ k i, K.ok (mk k i)) (s1 : MarkE K mk C f) (s2 : SameE K C g) (t : LL) {h0 h : za} {Q : zQ} (ht : t.okL 100000000 h0) (ho : Owns h0 h (t.obs K.n)) (hq : ∀ h', h0.le h' -> Q (.bool true) h') :
  zu (opsD C K.n K.bytes K.z f g) C t.x h Q := by
 refine zwy (elDF K hmk s1 s2) ht.is ho ht.n_le (fun j hj => ?_) hq
 have := ht.zmi j hj
 have h2 := Nat.mul_le_mul (show (t.D j).length + 64 <= 100000064 by omega) K.small
 exact ⟨by omega, by show ((t.D j).length + 64) * K.bytes <= _; omega⟩
theorem z7.spec (i : z7.Imp C N) (s1 : zdh.Spec C N) (s2 : zdj.Spec C N) : zi9 C 2 100000000 (N 95) := fun t h0 h Q ht ho hq =>
 i t.x h Q (flatD_spec rowK zsf s1 s2 t ht ho fun h' hle => zk (hq h' hle))
structure BagK where
 es : Nat -> Nat
 lim : Nat -> Nat
 full : Nat -> Bool
abbrev LK := List (AVal × List (List AVal))
def obK (es : Nat) (q : AVal × List (List AVal)) : Ob := .sl es q.1 q.2 []
def LK.ll (l : LK) (x : AVal) : LL := ⟨x, l.length, fun j => (l.getD j (.nils, [])).1, fun j => (l.getD j (.nils, [])).2, fun _ => [], []⟩
theorem LK.obs (l : LK) (x : AVal) (es : Nat) : (l.ll x).obs es = l.map (obK es) := by
 apply List.ext_getElem?
 intro j
 unfold LL.obs LK.ll
 by_cases hj : j < l.length
 ·rw [Objs.get hj, List.getElem?_map, List.getElem?_eq_getElem hj]
  simp [obK, hj]
 ·rw [List.getElem?_eq_none (by simp; omega), List.getElem?_eq_none (by simp; omega)]
theorem LK.zf0 (l : LK) : zf0 l.length (fun j => [(l.getD j (.nils, [])).1]) = l.map fun q => [q.1] := by
 apply List.ext_getElem?
 intro j
 by_cases hj : j < l.length
 ·rw [zlx _ hj, List.getElem?_map, List.getElem?_eq_getElem hj]; simp [hj]
 ·rw [List.getElem?_eq_none (by simp; omega), List.getElem?_eq_none (by simp; omega)]
def zg0 (C : CSem) (b : BagK) (i g : Nat) : Prop := (b.full i = true -> zi9 C (b.es i) (b.lim i) g) ∧ (b.full i = false -> zcm C g)
structure BagL (b : BagK) (h0 : za) (id : Nat) (L : Nat -> LK) (xs : Nat -> AVal) : Prop where
 box : h0 id = some (zej (fill 23 xs))
 is : ∀ i, i < 23 -> SlX h0 1 (xs i) ((L i).map fun q => [q.1]) []
 none : ∀ i, i < 23 -> b.full i = false -> L i = []
 n_le : ∀ i, i < 23 -> (L i).length <= 100000000
 zmi : ∀ i, i < 23 -> ∀ q ∈ L i, q.2.length <= b.lim i
def zjh (b : BagK) (L : Nat -> LK) (i n : Nat) : List Ob := (List.range' i n).flatMap fun i => (L i).map (obK (b.es i))
theorem zlz (b : BagK) (L : Nat -> LK) (i n : Nat) : zjh b L i (n + 1) = (L i).map (obK (b.es i)) ++ zjh b L (i + 1) n := by
 simp [zjh, List.range'_succ]
section
variable {b : BagK} {h0 h : za} {id : Nat} {L : Nat -> LK} {xs : Nat -> AVal} {Q : zQ}
theorem BagL.ld (hb : BagL b h0 id L xs) (hle : h0.le h) {i : Nat} (hi : i < 23) : A.ldv h (.ptr id 0 i) = some (xs i) := by
 rw [zd3 (hle _ _ hb.box), ztz _ hi]
theorem zgf {g : Nat} (i : Nat) (s : zg0 C b i g) (hb : BagL b h0 id L xs) (n : Nat) (hi : i < 23) (ho : Owns h0 h (zjh b L i (n + 1))) (hq : ∀ h', Owns h0 h' (zjh b L (i + 1) n) -> Q (.bool true) h') : C g [xs i] h Q := by
 rw [zlz] at ho
 cases hf : b.full i with
 | true =>
  obtain ⟨q1, q2⟩ := (ho.perm List.perm_append_comm).out
  have hx := (hb.is i hi).mono q1.le
  rw [<- LK.zf0] at hx
  rw [<- LK.obs (L i) (xs i)] at q1 q2
  refine s.1 hf ((L i).ll (xs i)) _ h Q ⟨by rw [<- LK.obs (L i) (xs i)] at hx; exact hx, hb.n_le i hi, fun j hj => ?_⟩ q2 fun h' hle => hq h' (q1.grow hle)
  have hj' : j < (L i).length := hj
  show ((L i).getD j (.nils, [])).2.length <= _
  rw [List.getD_eq_getElem?_getD, List.getElem?_eq_getElem hj']
  exact hb.zmi i hi _ (List.getElem_mem hj')
 | false =>
  have e := hb.none i hi hf
  have hx := hb.is i hi
  rw [e] at hx ho
  simp only [List.map_nil, List.nil_append] at hx ho
  exact s.2 hf (xs i) [] h h Q (hx.mono ho.le) (za.le_refl h) fun h' hle => hq h' (ho.grow hle)
end
def zta (C : CSem) (b : BagK) (g : Nat) : Prop := ∀ (id : Nat) (L : Nat -> LK) (xs : Nat -> AVal) (h0 h : za) (Q : zQ), BagL b h0 id L xs -> Owns h0 h (zjh b L 0 23) -> (∀ h', h0.le h' -> Q (.bool true) h') -> C g [.ptr id 0 0] h Q
theorem bag_apartK (i : zd0.Imp C N) (b : BagK) (f0 : zg0 C b 0 (N 80)) (f1 : zg0 C b 1 (N 81)) (f2 : zg0 C b 2 (N 82)) (f3 : zg0 C b 3 (N 83)) (f4 : zg0 C b 4 (N 84)) (f5 : zg0 C b 5 (N 85)) (f6 : zg0 C b 6 (N 86)) (f7 : zg0 C b 7 (N 87)) (f8 : zg0 C b 8 (N 88))
  (f9 : zg0 C b 9 (N 89)) (f10 : zg0 C b 10 (N 90)) (f11 : zg0 C b 11 (N 91)) (f12 : zg0 C b 12 (N 92)) (f13 : zg0 C b 13 (N 93)) (f14 : zg0 C b 14 (N 94)) (f15 : zg0 C b 15 (N 95)) (f16 : zg0 C b 16 (N 96)) (f17 : zg0 C b 17 (N 97)) (f18 : zg0 C b 18 (N 98)) (f19 : zg0 C b 19 (N 99))
  (f20 : zg0 C b 20 (N 100)) (f21 : zg0 C b 21 (N 101)) (f22 : zg0 C b 22 (N 102)) : zta C b (N 62) := by
 intro id L xs h0 h Q hb ho hq
 apply i
 simp -dsimp [hb.ld ho.le (i := 0) (by omega)]
 refine zgf 0 f0 hb 22 (by omega) ho fun h ho => ?_
 simp -dsimp [hb.ld ho.le (i := 1) (by omega)]
 refine zgf 1 f1 hb 21 (by omega) ho fun h ho => ?_
 simp -dsimp [hb.ld ho.le (i := 2) (by omega)]
 refine zgf 2 f2 hb 20 (by omega) ho fun h ho => ?_
 simp -dsimp [hb.ld ho.le (i := 3) (by omega)]
 refine zgf 3 f3 hb 19 (by omega) ho fun h ho => ?_
 simp -dsimp [hb.ld ho.le (i := 4) (by omega)]
 refine zgf 4 f4 hb 18 (by omega) ho fun h ho => ?_
 simp -dsimp [hb.ld ho.le (i := 5) (by omega)]
 refine zgf 5 f5 hb 17 (by omega) ho fun h ho => ?_
 simp -dsimp [hb.ld ho.le (i := 6) (by omega)]
 refine zgf 6 f6 hb 16 (by omega) ho fun h ho => ?_
 simp -dsimp [hb.ld ho.le (i := 7) (by omega)]
 refine zgf 7 f7 hb 15 (by omega) ho fun h ho => ?_
 simp -dsimp [hb.ld ho.le (i := 8) (by omega)]
 refine zgf 8 f8 hb 14 (by omega) ho fun h ho => ?_
 simp -dsimp [hb.ld ho.le (i := 9) (by omega)]
 refine zgf 9 f9 hb 13 (by omega) ho fun h ho => ?_
 simp -dsimp [hb.ld ho.le (i := 10) (by omega)]
 refine zgf 10 f10 hb 12 (by omega) ho fun h ho => ?_
 simp -dsimp [hb.ld ho.le (i := 11) (by omega)]
 refine zgf 11 f11 hb 11 (by omega) ho fun h ho => ?_
 simp -dsimp [hb.ld ho.le (i := 12) (by omega)]
 refine zgf 12 f12 hb 10 (by omega) ho fun h ho => ?_
 simp -dsimp [hb.ld ho.le (i := 13) (by omega)]
 refine zgf 13 f13 hb 9 (by omega) ho fun h ho => ?_
 simp -dsimp [hb.ld ho.le (i := 14) (by omega)]
 refine zgf 14 f14 hb 8 (by omega) ho fun h ho => ?_
 simp -dsimp [hb.ld ho.le (i := 15) (by omega)]
 refine zgf 15 f15 hb 7 (by omega) ho fun h ho => ?_
 simp -dsimp [hb.ld ho.le (i := 16) (by omega)]
 refine zgf 16 f16 hb 6 (by omega) ho fun h ho => ?_
 simp -dsimp [hb.ld ho.le (i := 17) (by omega)]
 refine zgf 17 f17 hb 5 (by omega) ho fun h ho => ?_
 simp -dsimp [hb.ld ho.le (i := 18) (by omega)]
 refine zgf 18 f18 hb 4 (by omega) ho fun h ho => ?_
 simp -dsimp [hb.ld ho.le (i := 19) (by omega)]
 refine zgf 19 f19 hb 3 (by omega) ho fun h ho => ?_
 simp -dsimp [hb.ld ho.le (i := 20) (by omega)]
 refine zgf 20 f20 hb 2 (by omega) ho fun h ho => ?_
 simp -dsimp [hb.ld ho.le (i := 21) (by omega)]
 refine zgf 21 f21 hb 1 (by omega) ho fun h ho => ?_
 simp -dsimp [hb.ld ho.le (i := 22) (by omega)]
 refine zgf 22 f22 hb 0 (by omega) ho fun h ho => ?_
 try simp -dsimp
 exact zk (hq _ ho.le)
end Go.Ab
namespace Go.Ab
variable {C : CSem} {N : zN}
def zbl.Spec (C : CSem) (N : zN) : Prop := ∀ (n : Nat) (h : za) (Q : zQ), n <= 100000000 -> (∀ x h' R, Owns h h' [.sl 1 x [] R] -> Q x h') -> C (N 444) [.nils, .int .i64 (n : Int)] h Q
theorem zbl.spec (i : zbl.Imp C N) : zbl.Spec C N := by
 intro n h Q hn hq
 apply i
 have e0 : V.bin .lss (.int .i64 (n : Int)) (.int .i64 0) = some (.bool (decide (n < 0))) := lssN (b := 0)
 have e1 : V.bin .sub (.int .i64 0) (.int .i64 0) = some (.int .i64 0) := rfl
 have e2 : V.bin .sub (.int .i64 (n : Int)) (.int .i64 0) = some (.int .i64 (n : Int)) := subNN (b := 0) (by omega) (by omega)
 simp -dsimp only [zbl.cps, zhp.cps, zhp.k1, e0, e1, e2, V.capSl, V.zj, V.bin_gtr, B.zi, Nat.not_lt_zero, decide_false, B.cond_false]
 refine B.ze (fun hb => ?_) (fun hb => ?_)
 ·have hb : 0 < n := by simpa using hb
  have e3 : V.zf1 (opsS 1 (.int .u8 0) 0).es .nils none (some (.int .i64 0)) = some .nils := rfl
  have ec : V.capSl .nils = some (.int .i64 0) := rfl
  have el : V.zj .nils = some (.int .i64 0) := rfl
  simp -dsimp only [ec, e3, B.zi]
  refine ⟨⟨rfl, by omega, by simp [opsS]; omega, by simp [maxLen]; omega⟩, fun id hid => ?_⟩
  have hr : repL (n : Int).toNat (opsS 1 (.int .u8 0) 0).z = List.replicate n (.int .u8 0) := by rw [Int.toNat_natCast]; exact repL_one n _
  rw [hr]
  have o := (Owns.start h).zl6 (id := id) (n := n) (cp := n) (es := 1) (cs := List.replicate n (.int .u8 0)) (L := List.replicate n [.int .u8 0]) (R := []) hid (by simp) (by simp) (by simp) (by simp)
  obtain ⟨y, e4, e5⟩ := Owns.cutTo (x := .sl id 0 0 n 1 n) o Nat.one_pos (k := 0) (by omega)
  rw [Int.toNat_natCast]
  simp -dsimp only [el, B.zi]
  have e4' : V.zf1 (opsS 1 (.int .u8 0) 0).es (.sl id 0 0 n (opsS 1 (.int .u8 0) 0).es n) none (some (.int .i64 0)) = some y := e4
  simp -dsimp only [e4', B.zi]
  exact zk (hq y _ _ e5)
 ·exact zk (hq _ _ _ ((Owns.start h).nils 1))
def zg.Spec (C : CSem) (N : zN) : Prop := ∀ (x : AVal) (xs : List AVal) (L : List (List UInt8)) (R : List (List AVal)) (h : za) (Q : zQ), SlX h 1 x (xs.map fun y => [y]) R -> xs.length = L.length -> (∀ (i : Nat) (y : AVal) (l : List UInt8), xs[i]? = some y -> L[i]? = some l -> ∃ R, SlX h 1 y (l.map bc) R) -> L.length <= 1000 -> L.flatten.length <= 100000000 ->
 (∀ x' h' R', Owns h h' [.sl 1 x' (L.flatten.map bc) R'] -> Q x' h') -> C (N 439) [x] h Q
theorem zg.spec (i : zg.Imp C N) (s1 : zbl.Spec C N) : zg.Spec C N := by
 intro x xs L R h Q hx hxl hin hl1 hl2 hq
 apply i
 have hlen := hx.zj
 rw [List.length_map, hxl] at hlen
 simp -dsimp only [zg.cps, hlen, B.zi]
 have cell : ∀ {hh : za} (hle : h.le hh) {k : Nat} (hk : k < L.length) {K : AVal -> Prop}, (∀ y R2, SlX hh 1 y (L[k].map bc) R2 -> K y) -> B.pv (V.idxS 1 x (.int .i64 (k : Int))) (fun v => B.ld hh v K) := fun {hh} hle {k} hk {K} hK => by
  have hg : (xs.map fun y => [y])[k]? = some [xs[k]'(by omega)] := by rw [List.getElem?_map, List.getElem?_eq_getElem (by omega)]; rfl
  have hidx : V.idxS 1 x (.int .i64 (k : Int)) = some (elp 1 x k 0) := hx.idxN (by simp; omega)
  rw [hidx, B.zi]
  rw [B.zii, (hx.mono hle).cell hg, B.zi]
  obtain ⟨R2, h2⟩ := hin k _ _ (List.getElem?_eq_getElem (by omega)) (List.getElem?_eq_getElem hk)
  exact hK _ _ (h2.mono hle)
 refine zd.intro (fun t vs hh => hh = h ∧ ∃ k : Nat, k + t = L.length ∧ vs = [.int .i64 ((L.take k).flatten.length : Int), .int .i64 (k : Int)]) L.length ?_ ⟨rfl, 0, by omega, rfl⟩
 rintro Y t vs hh ⟨rfl, k, ht, rfl⟩ hY
 simp -dsimp only [zg.l4, zg.k3, lssN, B.zi]
 refine B.ze (fun hb => ?_) (fun hb => ?_)
 ·rw [decide_eq_true_eq] at hb
  have hs := zpm hb
  have hle := zt8 L (k + 1)
  refine cell (za.le_refl _) hb fun y R2 hy => ?_
  have e1 := hy.zj
  rw [List.length_map] at e1
  have e2 : V.bin .lss (.int .i64 (((L.take k).flatten.length + L[k].length : Nat) : Int)) (.int .i64 0) = some (.bool false) := by
   exact (lssN (b := 0)).trans (by simp)
  simp -dsimp only [e1, addNN (a := (L.take k).flatten.length) (b := L[k].length) (by omega), e2, B.zi, B.cond_false, add1 (show k < 4611686018427387904 by omega)]
  exact hY (t - 1) _ _ (by omega) ⟨rfl, k + 1, by omega, by rw [hs]⟩
 ·rw [decide_eq_false_iff_not] at hb
  have hk : k = L.length := by omega
  subst hk
  rw [List.take_length]
  refine s1 _ _ _ hl2 fun y0 h1 R1 o1 => ?_
  simp -dsimp only [hlen, B.zi]
  refine zd.intro (fun t vs h2 => ∃ (k : Nat) (y : AVal) (R2 : List (List AVal)), k + t = L.length ∧ vs = [y, .int .i64 (k : Int)] ∧ Owns hh h2 [.sl 1 y ((L.take k).flatten.map bc) R2]) L.length ?_ ⟨0, y0, R1, by omega, rfl, o1⟩
  rintro Z t2 vs h2 ⟨k, y, R2, ht2, rfl, o2⟩ hZ
  simp -dsimp only [zg.l2, zg.k1, lssN, B.zi]
  refine B.ze (fun hc => ?_) (fun hc => ?_)
  ·rw [decide_eq_true_eq] at hc
   have hs := zpm hc
   have hle := zt8 L (k + 1)
   refine cell o2.le hc fun z R3 hz => ?_
   refine o2.appW 0 rfl hz Nat.one_pos (by simp only [List.length_map]; omega) (by simp only [List.length_map, maxLen]; omega) fun x' h' o3 _ => ?_
   simp -dsimp only [add1 (show k < 4611686018427387904 by omega), B.zi]
   refine hZ (t2 - 1) _ _ (by omega) ⟨k + 1, x', [], by omega, rfl, ?_⟩
   rw [List.take_add_one, List.getElem?_eq_getElem hc, Option.toList_some, List.flatten_append, List.flatten_singleton, List.map_append]
   exact o3
  ·rw [decide_eq_false_iff_not] at hc
   have hk : k = L.length := by omega
   subst hk
   rw [List.take_length] at o2
   exact zk (hq _ _ _ o2)
def Pcs (h : za) : List AVal -> List (List UInt8) -> Prop
 | [], [] => True
 | y :: ys, l :: ls => (∃ R, SlX h 1 y (l.map bc) R) ∧ Pcs h ys ls
 | _, _ => False
theorem Pcs.mono {h h' : za} (hle : h.le h') : ∀ {ys : List AVal} {ls : List (List UInt8)}, Pcs h ys ls -> Pcs h' ys ls
 | [], [], _ => trivial
 | _ :: _, _ :: _, ⟨⟨R, a⟩, b⟩ => ⟨⟨R, a.mono hle⟩, Pcs.mono hle b⟩
theorem Pcs.len {h : za} : ∀ {ys : List AVal} {ls : List (List UInt8)}, Pcs h ys ls -> ys.length = ls.length
 | [], [], _ => rfl
 | _ :: _, _ :: _, ⟨_, b⟩ => congrArg (· + 1) (Pcs.len b)
theorem Pcs.get {h : za} : ∀ {ys : List AVal} {ls : List (List UInt8)}, Pcs h ys ls -> ∀ (i : Nat) (y : AVal) (l : List UInt8), ys[i]? = some y -> ls[i]? = some l -> ∃ R, SlX h 1 y (l.map bc) R
 | [], [], _, i, y, l, h1, _ => by simp at h1
 | _ :: _, _ :: _, ⟨a, b⟩, 0, y, l, h1, h2 => by cases h1; cases h2; exact a
 | _ :: _, _ :: _, ⟨a, b⟩, i + 1, y, l, h1, h2 => Pcs.get b i y l h1 h2
theorem Pcs.snoc {h : za} {y : AVal} {l : List UInt8} (hy : ∃ R, SlX h 1 y (l.map bc) R) : ∀ {ys : List AVal} {ls : List (List UInt8)}, Pcs h ys ls -> Pcs h (ys ++ [y]) (ls ++ [l])
 | [], [], _ => ⟨hy, trivial⟩
 | _ :: _, _ :: _, ⟨a, b⟩ => ⟨a, Pcs.snoc hy b⟩
theorem Owns.cutAt {h0 h : za} {l : List Ob} (ho : Owns h0 h l) (k : Nat) {es : Nat} {x : AVal} {L R : List (List AVal)} (hk : l[k]? = some (.sl es x L R)) : Owns h0 h (l.set k (.sl es x L [])) :=
 ho.turn k hk (o' := .sl es x L []) (SlX.cut (ho.slAt k hk)) (fun id b hf hb => ho.zlp k hk id b hf hb) (fun _ _ h _ => h) (.inl rfl)
def zfc.Spec (C : CSem) (N : zN) : Prop := ∀ (x : AVal) (xs : List AVal) (L : List (List UInt8)) (R : List (List AVal)) (h : za) (Q : zQ), SlX h 1 x (xs.map fun y => [y]) R -> Pcs h xs L -> L.length <= 1000 -> L.flatten.length <= 100000000 ->
 (∀ x' h', Owns h h' [bOb false x' L.flatten] -> Q x' h') -> C (N 424) [x] h Q
theorem zfc.spec (i : zfc.Imp C N) (s1 : zg.Spec C N) : zfc.Spec C N := by
 intro x xs L R h Q hx hp h1 h2 hq
 apply i
 simp -dsimp only [zfc.cps]
 exact s1 x xs L R h _ hx hp.len hp.get h1 h2 fun x' h' R' o => zk (hq x' h' (o.cutAt 0 rfl))
abbrev zja (p out : AVal) (P : List (Row × (AVal × AVal))) : List Ob := .box p [out] :: .sl 2 out (P.map rowK.cs) [] :: rowK.os false P
def zen.Spec (C : CSem) (N : zN) : Prop := ∀ (h0 h : za) (p out k : AVal) (P : List (Row × (AVal × AVal))) (key : List UInt8) (x : AVal) (xs : List AVal) (L : List (List UInt8)) (R : List (List AVal)) (Q : zQ),
 Owns h0 h (zja p out P ++ [bOb false k key]) -> SlX h 1 x (xs.map fun y => [y]) R -> Pcs h xs L -> L.length <= 1000 -> L.flatten.length <= 100000000 -> P.length <= 1000000 ->
 (∀ out' v h', Owns h0 h' (zja p out' (P ++ [(⟨key, L.flatten⟩, (k, v))])) -> Q (.tup []) h') -> C (N 425) [k, x, p] h Q
theorem zen.spec (i : zen.Imp C N) (s1 : zfc.Spec C N) : zen.Spec C N := by
 intro h0 h p out k P key x xs L R Q ho hx hp h1 h2 h3 hq
 apply i
 obtain ⟨id, rfl, hb⟩ := ho.zgr 0 rfl
 have hk : k.zm = true := ((ho.is (bOb false k key) (by simp)) : (bOb false k key).at h).zm
 simp -dsimp [zd3 hb]
 refine s1 x xs L R h _ hx hp h1 h2 fun v h4 o4 => ?_
 have oj := ho.join o4
 obtain ⟨id', e, hb4⟩ := oj.zgr 0 rfl
 cases e
 have hv : v.zm = true := ((o4.is (bOb false v L.flatten) (by simp)) : (bOb false v L.flatten).at h4).zm
 refine keepD1 ⟨out, by simp [zd3 hb], by simp [zd3 hb4]⟩ ?_
 simp -dsimp [hk, hv]
 refine oj.push 1 rfl rfl (by omega) (by simp; omega) (by simp [maxLen]; omega) fun out' h5 o5 _ => ?_
 have c5 : out'.zm = true := (o5.slAt 1 rfl).zm
 refine o5.zm0 0 rfl c5 (by simp) fun h6 o6 _ => ?_
 refine zk (hq out' v h6 ?_)
 unfold zja
 rw [DK.zlq, DK.zwh, List.map_append]
 simpa [rowK] using o6
end Go.Ab
namespace Go.Ab
variable {C : CSem} {N : zN}
theorem Owns.lay {h0 h : za} {l l' : List Ob} (ho : Owns h0 h (l ++ l')) : ∃ hb : za, h0.le hb ∧ hb.le h ∧ Owns hb h l ∧ zto hb l' := by
 obtain ⟨q1, q2⟩ := (ho.perm List.perm_append_comm).out
 exact ⟨_, q1.le, q2.le, q2, q1.is⟩
theorem zue : ∀ ys : List AVal, (ys.map fun y => [y]).flatten = ys
 | [] => rfl
 | y :: r => by rw [List.map_cons, List.flatten_cons, zue r]; rfl
theorem zew {hb hh h1 : za} {l : List Ob} {x : AVal} {M : List UInt8} {xs : List AVal} {L : List (List UInt8)} (ho : Owns hb hh l) (hp : Pcs hb xs L) (o1 : Owns hh h1 [.sl 1 x (M.map bc) []]) :
  ∃ hb' : za, hb.le hb' ∧ Owns hb' h1 l ∧ Pcs hb' (xs ++ [x]) (L ++ [M]) := by
 obtain ⟨b, m1, m2, o, a⟩ := (ho.join o1).lay
 exact ⟨b, m1, o, (hp.mono m1).snoc ⟨[], a (.sl 1 x (M.map bc) []) (by simp)⟩⟩
theorem zhl {h : za} {s : List UInt8} {cs : List AVal} (n : Nat) {K : Nat -> za -> Prop} (hcs : cs = s.map fun b => .int .u8 (b.toNat : Int)) (hn : n = s.length) (hk : ∀ id h', Owns h h' [.sl 1 (.sl id 0 0 n 1 n) (s.map bc) []] -> K id h') :
  B.newO h (some cs) K := fun id hid => by
 refine hk _ _ ?_
 exact (Owns.start h).zl6 (L := s.map bc) (R := []) hid (by simp) (by simpa using hn) (by simp; omega) (by rw [List.append_nil, bc_flat, hcs])
theorem zrr {h0 h : za} {x : AVal} {s : List UInt8} {K : AVal -> Prop} (ho : Owns h0 h [.sl 1 x (s.map bc) []]) (hs : s ≠ []) (hk : K x) : B.conv h x K := by
 have hx := ho.slAt 0 rfl
 rcases hx.at_ with ⟨e, _⟩ | ⟨id, g, off, cp, b, hi, h1, h1', h2, h3, h4, hh, h5⟩
 ·exact absurd (List.map_eq_nil_iff.1 e) hs
 ·subst h1
  have := ho.zlp 0 rfl id b rfl h2
  have hl : 0 < s.length := List.length_pos_iff.2 hs
  simp only [B.conv, A.conv, h2, h3, this, Option.isSome_some]
  refine ⟨?_, hk⟩
  simp; omega
theorem appLit {hb hh : za} {l : List Ob} {v : AVal} {xs ys : List AVal} {m : Nat} {K : zQ} (ho : Owns hb hh (l ++ [.sl 1 v (xs.map fun y => [y]) []])) (hm : m = ys.length) (hl : xs.length + ys.length <= 1000)
  (hK : ∀ v' h', Owns hb h' (l ++ [.sl 1 v' ((xs ++ ys).map fun y => [y]) []]) -> K v' h') : B.newO hh (some ys) fun i h => B.appW h 1 24 v (.sl i 0 0 m 1 m) K := fun id hid => by
 have hf : ys = ((ys.map fun y => [y]) ++ []).flatten := by rw [List.append_nil, zue]
 refine (ho.grow (zhw _ hid)).appW l.length zko (M := ys.map fun y => [y]) (R' := []) (SlX.lit (zbf ..) (by simp) (by simpa using hm) (by simp; omega) hf) Nat.one_pos (by simp; omega) (by simp [maxLen]; omega) fun v' h' o1 _ => hK v' h' ?_
 rw [zvi] at o1
 rw [List.map_append]; exact o1
theorem zsz {hb hh : za} {l : List Ob} {ys : List AVal} (m : Nat) {K : Nat -> za -> Prop} (ho : Owns hb hh l) (hm : m = ys.length)
  (hK : ∀ id h', hh.le h' -> Owns hb h' (l ++ [.sl 1 (.sl id 0 0 m 1 m) (ys.map fun y => [y]) []]) -> K id h') : B.newO hh (some ys) K := fun id hid => by
 have hf : ys = ((ys.map fun y => [y]) ++ []).flatten := by rw [List.append_nil, zue]
 exact hK _ _ (zhw _ hid) (ho.zl6 hid (by simp) (by simpa using hm) (by simp; omega) hf)
theorem zwp {t : Itm} (h : znf t = true) : t.zf2.length <= 8 ∧ t.zfk.length <= 4 ∧ (∀ p ∈ t.zf2, zcc p.Item = true) ∧ zcc t.Code = true ∧ ∀ o ∈ t.zfk, zcc o = true := by
 unfold znf zmk at h
 simp only [Bool.and_eq_true, List.all_eq_true, List.length_cons, decide_eq_true_eq] at h
 obtain ⟨⟨h1, h2, h3⟩, h4⟩ := h
 refine ⟨?_, by omega, ?_, h1 _ (by simp), fun o ho => h1 o (by simp [ho])⟩
 ·by_cases e : t.zf2 = []
  ·rw [e]; simp
  ·rw [decide_eq_false e] at h4
   simp only [cond_false, Bool.and_eq_true, decide_eq_true_eq] at h4
   have := h4.2.2.2.2
   unfold partsIn at this
   simpa using this
 ·by_cases e : t.zf2 = []
  ·rw [e]; simp
  ·rw [decide_eq_false e] at h4
   simp only [cond_false, Bool.and_eq_true, List.all_eq_true] at h4
   exact fun p hp => h4.2.2.1 _ (List.mem_map.2 ⟨p, hp, rfl⟩)
theorem ordB_all {T : Type} {ok : T -> Bool} {lt : T -> T -> Bool} : ∀ {l : List T} {p : Option T}, ordB ok lt p l = true -> ∀ x ∈ l, ok x = true
 | [], _, _, x, hx => by cases hx
 | a :: l, p, h, x, hx => by
  rw [ordB] at h
  simp only [Bool.and_eq_true] at h
  rcases List.mem_cons.1 hx with rfl | hx
  ·exact h.1.1
  ·exact ordB_all h.2 x hx
end Go.Ab
namespace Go.Ab
variable {C : CSem} {N : zN}
theorem numPut (s1 : zcl.Spec C N) (s2 : zen.Spec C N) {h0 h : za} {p out k : AVal} {P : List (Row × (AVal × AVal))} {key : List UInt8} {n : Int} {j : Nat} {K : zQ} (ho : Owns h0 h (zja p out P ++ [bOb false k key])) (hj : j <= 8) (hP : P.length <= 1000000)
  (hK : ∀ out' v h', Owns h0 h' (zja p out' (P ++ [(⟨key, be n j⟩, (k, v))])) -> K (.tup []) h') :
  B.call C (N 423) [.int .i64 n, .int .i64 (j : Int)] h fun v26 h => B.newO h (zc0 [(0, none, v26)] (repL 1 [.nils])) fun i27 h => B.zkp h C (.fn (N 425) [] [p]) [k, .sl i27 0 0 1 1 1] K := by
 refine s1 n j _ _ hj fun x' h1 o1 => ?_
 have c := (o1.slAt 0 rfl).zm
 simp -dsimp [c]
 refine zsz 1 (ho.join o1) rfl (ys := [x']) fun id h2 hle o2 => ?_
 generalize AVal.sl id 0 0 1 1 1 = v at *
 simp -dsimp only [B.zrt, List.nil_append, List.cons_append]
 have hx : SlX h2 1 x' ((be n j).map bc) [] := o2.is (.sl 1 x' ((be n j).map bc) []) (by simp)
 have hv : SlX h2 1 v ([x'].map fun y => [y]) [] := o2.is (.sl 1 v ([x'].map fun y => [y]) []) (by simp)
 refine s2 h0 h2 p out k P key v [x'] [be n j] [] _ (o2.sub (by simp)) hv ⟨⟨_, hx⟩, trivial⟩ (by simp) (by simp; omega) hP fun out' w h3 o3 => hK out' w h3 ?_
 simpa using o3
theorem All_lines (s1 : zcl.Spec C N) (s2 : zen.Spec C N) (s3 : zfg.Spec C N) (s4 : zfc.Spec C N) {h0 h : za} {s : Sta} {p z out : AVal} {R : List (List AVal)} {P : List (Row × (AVal × AVal))} {Q : zQ} (hn : SlX h0 8 z (s.zgp.map Line.cs) R) (hl : P.length + s.zgp.length <= 1000000) (ho : Owns h0 h (zja p out P))
  (hq : ∀ out' P' h', P'.map (·.1) = P.map (·.1) ++ s.zgp.map zqo -> Owns h0 h' (zja p out' P') -> Q out' h') :
  zd (zw.l2 C N Q p (.fn (N 425) [] [p]) z (.int .i64 s.zgp.length)) [.int .i64 0] h := by
 refine zd.intro (fun n vs hh => ∃ (k : Nat) (out : AVal) (P' : List (Row × (AVal × AVal))), k + n = s.zgp.length ∧ vs = [.int .i64 (k : Int)] ∧ P'.map (·.1) = P.map (·.1) ++ (s.zgp.take k).map zqo ∧ Owns h0 hh (zja p out P')) s.zgp.length ?_ ⟨0, out, P, by simp, rfl, by simp, ho⟩
 rintro Y n vs hh ⟨k, out, P', hk, rfl, hP', ho⟩ hY
 have hPl := congrArg List.length hP'
 simp only [List.length_map, List.length_append, List.length_take] at hPl
 simp -dsimp only [zw.l2, zw.k1, lssN, B.zi]
 refine B.ze (fun hc => ?_) (fun hc => ?_)
 ·rw [decide_eq_true_eq] at hc
  obtain ⟨w, hw⟩ := zdz hc
  have hkl : k < (s.zgp.map Line.cs).length := by simpa using hc
  have e1 : V.idxS 8 z (.int .i64 (k : Int)) = some (elp 8 z k 0) := hn.idxN hkl
  have e2 := (hn.mono ho.le).elem (get_map hw)
  have e3 : IntKind.u8.wrap w.Rank = ((byt w.Rank).toNat : Int) := zld _
  simp -dsimp [e1, e2, e3]
  refine s1 w.Id 8 _ _ (by omega) fun a1 h1 o1 => ?_
  obtain ⟨b1, m1, ho1, p1⟩ := zew (xs := []) (L := []) ho trivial o1
  simp -dsimp
  refine zhl 1 (s := [111]) rfl rfl fun i153 h2 o2 => ?_
  refine zrr o2 (by simp) ?_
  obtain ⟨b2, m2, ho2, p2⟩ := zew ho1 p1 o2
  generalize AVal.sl i153 0 0 1 1 1 = a2 at *
  have c1 := (p2.get 0 a1 _ rfl rfl).elim fun _ r => r.zm
  have c2 := (p2.get 1 a2 _ rfl rfl).elim fun _ r => r.zm
  simp -dsimp [c1, c2]
  refine zsz 2 ho2 rfl (ys := [a2, a1]) fun i158 h3 hle3 o3 => ?_
  generalize AVal.sl i158 0 0 2 1 2 = a3 at *
  have p3 := p2.mono (za.le_trans ho2.le hle3)
  refine s4 a3 [a2, a1] [[111], be w.Id 8] [] _ _ (o3.is (.sl 1 a3 ([a2, a1].map fun y => [y]) []) (by simp)) ⟨p3.2.1, p3.1, trivial⟩ (by simp) (by simp) fun key h4 o4 => ?_
  have ho4 : Owns b2 h4 (zja p out P' ++ [bOb false key ([[111], be w.Id 8].flatten)]) := (o3.join o4).sub ((List.sublist_append_left _ _).append_right _)
  refine s3 w.Item _ _ fun a5 h5 o5 => ?_
  obtain ⟨b5, m5, ho5, p5⟩ := zew (xs := []) (L := []) ho4 trivial o5
  refine s1 w.Qty 4 _ _ (by omega) fun a6 h6 o6 => ?_
  obtain ⟨b6, m6, ho6, p6⟩ := zew ho5 p5 o6
  refine s1 w.Asked 2 _ _ (by omega) fun a7 h7 o7 => ?_
  obtain ⟨b7, m7, ho7, p7⟩ := zew ho6 p6 o7
  refine s1 (IntKind.i64.wrap (w.Day + 1)) 2 _ _ (by omega) fun a8 h8 o8 => ?_
  obtain ⟨b8, m8, ho8, p8⟩ := zew ho7 p7 o8
  refine s3 w.Code _ _ fun a9 h9 o9 => ?_
  obtain ⟨b9, m9, ho9, p9⟩ := zew ho8 p8 o9
  simp -dsimp
  refine zhl 2 (s := [byt w.Rank, w.State]) rfl rfl fun i174 h10 o10 => ?_
  obtain ⟨b10, m10, ho10, p10⟩ := zew ho9 p9 o10
  generalize AVal.sl i174 0 0 2 1 2 = a10 at *
  have c5 := (p10.get 0 a5 _ rfl rfl).elim fun _ r => r.zm
  have c6 := (p10.get 1 a6 _ rfl rfl).elim fun _ r => r.zm
  have c7 := (p10.get 2 a7 _ rfl rfl).elim fun _ r => r.zm
  have c8 := (p10.get 3 a8 _ rfl rfl).elim fun _ r => r.zm
  have c9 := (p10.get 4 a9 _ rfl rfl).elim fun _ r => r.zm
  have c10 := (p10.get 5 a10 _ rfl rfl).elim fun _ r => r.zm
  simp -dsimp [c5, c6, c7, c8, c9, c10]
  refine zsz 6 ho10 rfl (ys := [a5, a6, a7, a10, a8, a9]) fun i182 h11 hle11 o11 => ?_
  generalize AVal.sl i182 0 0 6 1 6 = a11 at *
  have p11 := p10.mono (za.le_trans ho10.le hle11)
  simp -dsimp only [B.zrt, List.nil_append, List.cons_append]
  refine s2 b10 h11 p out key P' _ a11 [a5, a6, a7, a10, a8, a9] [zeo w.Item, be w.Qty 4, be w.Asked 2, [byt w.Rank, w.State], be (IntKind.i64.wrap (w.Day + 1)) 2, zeo w.Code] [] _ (o11.sub (List.sublist_append_left _ _)) (o11.is (.sl 1 a11 ([a5, a6, a7, a10, a8, a9].map fun y => [y]) []) (by simp)) ⟨p11.1, p11.2.1, p11.2.2.1, p11.2.2.2.2.2.1, p11.2.2.2.1, p11.2.2.2.2.1, trivial⟩ (by simp) ?_ (by omega) fun out' v h12 o12 => ?_
  ·have h1 := zev w.Item
   have h2 := zev w.Code
   simp
   omega
  ·simp -dsimp only [add1 (show k < 4611686018427387904 by omega), B.zi]
   refine hY (s.zgp.length - (k + 1)) _ _ (by omega) ⟨k + 1, out', _, by omega, rfl, ?_, o12.back ?_⟩
   ·rw [List.map_append, hP', take_succ hw, List.map_append, List.append_assoc]
    have e : be (IntKind.i64.wrap (w.Day + 1)) 2 = be (w.Day + 1) 2 := be_congr (by rw [IntKind.wrap_i64]; omega) 2 (by omega)
    simp [zqo, lineVal, e]
   ·exact za.le_trans m1 (za.le_trans m2 (za.le_trans m5 (za.le_trans m6 (za.le_trans m7 (za.le_trans m8 (za.le_trans m9 m10))))))
 ·rw [decide_eq_false_iff_not] at hc
  have : k = s.zgp.length := by omega
  subst this
  rw [List.take_length] at hP'
  obtain ⟨id, rfl, hb⟩ := ho.zgr 0 rfl
  simp -dsimp [zd3 hb]
  exact hq out P' hh hP' ho
end Go.Ab
