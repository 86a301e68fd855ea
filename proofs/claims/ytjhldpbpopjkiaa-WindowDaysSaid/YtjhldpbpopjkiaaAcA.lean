/- What is proved: rules by which residuals are worked out. No conditions. -/
import Derived.Test.YtjhldpbpopjkiaaAdC
set_option linter.unusedVariables false
namespace Go.Ab

/-- What follows need know no more of the memory than this. -/
def dn (Q : AVal → AHeap → Prop) (v : AVal) (h : AHeap) : Prop := ∃ h', Q v h' ∧ h'.le h
theorem dn_same {Q : AVal → AHeap → Prop} {v : AVal} {h : AHeap} (hq : Q v h) : dn Q v h := ⟨h, hq, AHeap.le_refl h⟩
theorem dn_le {Q : AVal → AHeap → Prop} {v : AVal} {h h' : AHeap} (hle : h.le h') (hq : Q v h) : dn Q v h' := ⟨h, hq, hle⟩

/-- So many cells alike. -/
def zrep (n : Nat) (v : AVal) : List AVal := List.replicate n v
@[simp] theorem zrep_len (n : Nat) (v : AVal) : (zrep n v).length = n := List.length_replicate
/-! What stands behind an operation is not looked at till it is come to. -/
/-- A statement, in whose type what follows is named: so it is not looked into. -/
abbrev Wr {α : Sort _} (a : α) : Type := Prop
namespace B
variable (h : AHeap)
def pv (o : Option AVal) (K : AVal → Prop) : Wr K := A.pv o K
def cond (c : AVal) (x y : Prop) : Wr (x, y) := A.cond c x y
def al (v : AVal) (p : Prop) : Wr p := A.al v p
def pick (c a b : AVal) (K : AVal → Prop) : Wr K := A.pick c a b K
def newO (o : Option (List AVal)) (K : Nat → AHeap → Prop) : Wr K := A.newO h o K
def ld (p : AVal) (K : AVal → Prop) : Wr K := A.ld h p K
def ldn (p : AVal) (n : Nat) (K : AVal → Prop) : Wr K := A.ldn h p n K
def st (p v : AVal) (K : AHeap → Prop) : Wr K := A.st h p v K
def stn (p : AVal) (n : Nat) (v : AVal) (K : AHeap → Prop) : Wr K := A.stn h p n v K
def nilCheck (v : AVal) (K : AVal → Prop) : Wr K := A.nilCheck v K
def appW (es bytes : Nat) (x y : AVal) (K : AVal → AHeap → Prop) : Wr K := A.appW h es bytes x y K
def cpy (es : Nat) (x y : AVal) (K : AVal → AHeap → Prop) : Wr K := A.cpy h es x y K
def mks (bytes : Nat) (z : Option (List AVal)) (l c : AVal) (K : AVal → AHeap → Prop) : Wr K := A.mks h bytes z l c K
def bytesStr (x : AVal) (K : AVal → Prop) : Wr K := A.bytesStr h x K
def strBytes (x : AVal) (K : AVal → AHeap → Prop) : Wr K := A.strBytes h x K
def rangeStr (x : AVal) (K : AVal → AHeap → Prop) : Wr K := A.rangeStr h x K
def nextStr (x : AVal) (K : AVal → AHeap → Prop) : Wr K := A.nextStr h x K
def call (C : CSem) (f : Nat) (args : List AVal) (h : AHeap) (K : AVal → AHeap → Prop) : Wr K := C f args h K
def callv (h : AHeap) (C : CSem) (f : AVal) (args : List AVal) (K : AVal → AHeap → Prop) : Wr K := A.callv h C f args K
def gd (c : AVal) (want : Bool) (M : (AVal → AHeap → Prop) → Prop) (K : AVal → AHeap → Prop) : Wr (M, K) := A.gd h c want M K
/-- An operation that is done just if d. -/
def gdb (d : Bool) (M : (AVal → AHeap → Prop) → Prop) (K : AVal → AHeap → Prop) : Wr K := (d = true → M K) ∧ (d = false → K (.tup []) h)
def keepS (ls : List (AVal × Option Nat)) (K : AVal → AHeap → Prop) : AVal → AHeap → Prop := A.keepS h ls K
end B

@[simp] theorem B.pv_some (v : AVal) (K : AVal → Prop) : (B.pv (some v) K : Prop) = K v := propext Iff.rfl
@[simp] theorem B.pv_none (K : AVal → Prop) : (B.pv none K : Prop) = False := propext Iff.rfl
@[simp] theorem B.al_agg (cs : List AVal) (p : Prop) : (B.al (.agg cs) p : Prop) = p := propext Iff.rfl
@[simp] theorem B.cond_true (x y : Prop) : (B.cond (.bool true) x y : Prop) = x := by simp [B.cond, A.cond]
@[simp] theorem B.cond_false (x y : Prop) : (B.cond (.bool false) x y : Prop) = y := by simp [B.cond, A.cond]
theorem B.cond_bool {b : Bool} {x y : Prop} (hx : b = true → x) (hy : b = false → y) : B.cond (.bool b) x y := ⟨hx, hy⟩
@[simp] theorem B.ld_eq (h : AHeap) (p : AVal) (K : AVal → Prop) : (B.ld h p K : Prop) = B.pv (A.ldv h p) K := propext Iff.rfl
@[simp] theorem B.ldn_eq (h : AHeap) (p : AVal) (n : Nat) (K : AVal → Prop) : (B.ldn h p n K : Prop) = B.pv (A.ldnv h p n) K := propext Iff.rfl
@[simp] theorem B.nilCheck_ptr (id g off : Nat) (K : AVal → Prop) : (B.nilCheck (.ptr id g off) K : Prop) = K (.ptr id g off) := propext Iff.rfl
@[simp] theorem B.callv_fn (h : AHeap) (C : CSem) (f : Nat) (first caps args : List AVal) (K : AVal → AHeap → Prop) : (B.callv h C (.fn f first caps) args K : Prop) = B.call C f (first ++ args ++ caps) h K := propext Iff.rfl

/-! Guarded operations. -/
/-- What a guarded operation leaves. -/
def gv (b : Bool) (v : AVal) : AVal := bif b then v else .tup []
@[simp] theorem gv_true (v : AVal) : gv true v = v := eq_of_heq HEq.rfl
@[simp] theorem gv_false (v : AVal) : gv false v = .tup [] := eq_of_heq HEq.rfl
@[simp] theorem gv_gv (b c : Bool) (v : AVal) : gv b (gv c v) = gv (b && c) v := by cases b <;> cases c <;> exact eq_of_heq HEq.rfl
section
variable (h : AHeap) (b c : Bool) (M : (AVal → AHeap → Prop) → Prop) (K : AVal → AHeap → Prop) (v : AVal)
@[simp] theorem B.gd_t : (B.gd h (.bool b) true M K : Prop) = B.gdb h b M K := by cases b <;> simp [B.gd, A.gd, B.gdb]
@[simp] theorem B.gd_f : (B.gd h (.bool b) false M K : Prop) = B.gdb h (!b) M K := by cases b <;> simp [B.gd, A.gd, B.gdb]
@[simp] theorem B.gd_ct : (B.gd h (gv b (.bool c)) true M K : Prop) = B.gdb h (b && c) M K := by cases b <;> cases c <;> simp [B.gd, A.gd, B.gdb, gv]
@[simp] theorem B.gd_cf : (B.gd h (gv b (.bool c)) false M K : Prop) = B.gdb h (b && !c) M K := by cases b <;> cases c <;> simp [B.gd, A.gd, B.gdb, gv]
@[simp] theorem B.gd_tup (w : Bool) : (B.gd h (.tup []) w M K : Prop) = K (.tup []) h := propext Iff.rfl
@[simp] theorem B.gdb_pure : (B.gdb h b (fun K => K v h) K : Prop) = K (gv b v) h := by cases b <;> simp [B.gdb, gv]
@[simp] theorem B.gdb_true : (B.gdb h true M K : Prop) = M K := by simp [B.gdb]
@[simp] theorem B.gdb_false : (B.gdb h false M K : Prop) = K (.tup []) h := by simp [B.gdb]
end
@[congr] theorem B.gdb_congr {h : AHeap} {c c' : Bool} {M M' : (AVal → AHeap → Prop) → Prop} {K : AVal → AHeap → Prop} (hc : c = c') (hM : c' = true → ∀ K, M K = M' K) : (B.gdb h c M K : Prop) = B.gdb h c' M' K := by
  subst hc
  unfold B.gdb
  cases c
  · simp
  · simp [hM rfl]
/-- A guarded call that leaves the memory. -/
theorem B.gdb_call {h : AHeap} {b : Bool} {v : AVal} {M : (AVal → AHeap → Prop) → Prop} {K : AVal → AHeap → Prop} (hs : b = true → ∀ Q : AVal → AHeap → Prop, Q v h → M Q)
    (hk : K (gv b v) h) : B.gdb h b M K := by
  cases b
  · exact ⟨fun e => (by cases e), fun _ => hk⟩
  · exact ⟨fun _ => hs rfl _ hk, fun e => (by cases e)⟩
section
variable (b c d : Bool) (u x y : AVal) (K : AVal → Prop)
@[simp] theorem B.pick_and : (B.pick (.bool b) (gv b (.bool c)) (.bool d) K : Prop) = K (.bool (bif b then c else d)) := by cases b <;> exact eq_of_heq HEq.rfl
@[simp] theorem B.pick_or : (B.pick (.bool b) (.bool d) (gv (!b) (.bool c)) K : Prop) = K (.bool (bif b then d else c)) := by cases b <;> exact eq_of_heq HEq.rfl
@[simp] theorem B.pick_nor : (B.pick (.bool !b) (.bool d) (gv b (.bool c)) K : Prop) = K (.bool (bif b then c else d)) := by cases b <;> exact eq_of_heq HEq.rfl
@[simp] theorem B.pick_t : (B.pick (.bool true) x y K : Prop) = K x := eq_of_heq HEq.rfl
@[simp] theorem B.pick_f : (B.pick (.bool false) x y K : Prop) = K y := eq_of_heq HEq.rfl
@[simp] theorem B.pick_plain : (B.pick (.bool b) (.bool c) (.bool d) K : Prop) = K (.bool (bif b then c else d)) := by cases b <;> exact eq_of_heq HEq.rfl
@[simp] theorem B.pick_int (k : IntKind) (x y : Int) : (B.pick (.bool b) (.int k x) (.int k y) K : Prop) = K (.int k (bif b then x else y)) := by cases b <;> exact eq_of_heq HEq.rfl
theorem cond_andb : (bif b then c else false) = (b && c) := by cases b <;> rfl
theorem cond_orb : (bif b then true else c) = (b || c) := by cases b <;> rfl
attribute [simp] cond_andb cond_orb
end

namespace V
variable (k : IntKind) (a b : Int)
@[simp] theorem bin_add : bin .add (.int k a) (.int k b) = some (.int k (k.wrap (a + b))) := by simp [bin, arith]
@[simp] theorem bin_sub : bin .sub (.int k a) (.int k b) = some (.int k (k.wrap (a - b))) := by simp [bin, arith]
@[simp] theorem bin_mul : bin .mul (.int k a) (.int k b) = some (.int k (k.wrap (a * b))) := by simp [bin, arith]
@[simp] theorem bin_quo (hb : b ≠ 0) : bin .quo (.int k a) (.int k b) = some (.int k (k.wrap (a.tdiv b))) := by simp [bin, arith, hb]
@[simp] theorem bin_rem (hb : b ≠ 0) : bin .rem (.int k a) (.int k b) = some (.int k (a.tmod b)) := by simp [bin, arith, hb]
@[simp] theorem bin_eql : bin .eql (.int k a) (.int k b) = some (.bool (decide (a = b))) := by simp [bin, arith]; rfl
@[simp] theorem bin_neq : bin .neq (.int k a) (.int k b) = some (.bool (!decide (a = b))) := by simp [bin, arith]; rfl
@[simp] theorem bin_lss : bin .lss (.int k a) (.int k b) = some (.bool (decide (a < b))) := by simp [bin, arith]
@[simp] theorem bin_leq : bin .leq (.int k a) (.int k b) = some (.bool (decide (a ≤ b))) := by simp [bin, arith]
@[simp] theorem bin_gtr : bin .gtr (.int k a) (.int k b) = some (.bool (decide (b < a))) := by simp [bin, arith]
@[simp] theorem bin_geq : bin .geq (.int k a) (.int k b) = some (.bool (decide (b ≤ a))) := by simp [bin, arith]
@[simp] theorem bin_seql (x y : List UInt8) : bin .eql (.str x) (.str y) = some (.bool (decide (x = y))) := by simp only [bin, strOp]; congr 2; rw [Bool.eq_iff_iff]; simp
@[simp] theorem bin_sneq (x y : List UInt8) : bin .neq (.str x) (.str y) = some (.bool (!decide (x = y))) := by simp only [bin, strOp]; congr 3; rw [Bool.eq_iff_iff]; simp
@[simp] theorem eqBool_eql (x y : Bool) : eqBool .eql (.bool x) (.bool y) = some (.bool (x == y)) := eq_of_heq HEq.rfl
@[simp] theorem eqBool_neq (x y : Bool) : eqBool .neq (.bool x) (.bool y) = some (.bool (!(x == y))) := eq_of_heq HEq.rfl
@[simp] theorem un_not (x : Bool) : un .not (.bool x) = some (.bool !x) := eq_of_heq HEq.rfl
@[simp] theorem un_neg : un .neg (.int k a) = some (.int k (k.wrap (0 - a))) := eq_of_heq HEq.rfl
@[simp] theorem toInt_int (j : IntKind) : toInt k (.int j a) = some (.int k (k.wrap a)) := eq_of_heq HEq.rfl
@[simp] theorem strStr_str (x : List UInt8) : strStr (.str x) = some (.str x) := eq_of_heq HEq.rfl
@[simp] theorem fieldAddr_ptr (o id g off : Nat) : fieldAddr o (.ptr id g off) = some (.ptr id g (off + o)) := eq_of_heq HEq.rfl
@[simp] theorem field1_agg (o : Nat) (cs : List AVal) : field1 o (.agg cs) = cs[o]? := eq_of_heq HEq.rfl
@[simp] theorem fieldN_agg (o n : Nat) (cs : List AVal) : fieldN o n (.agg cs) = if o + n ≤ cs.length then some (.agg ((cs.drop o).take n)) else none := eq_of_heq HEq.rfl
@[simp] theorem setF_agg (o : Nat) (v : AVal) (cs : List AVal) : setF o v (.agg cs) = optAgg (put1 o v cs) := by unfold setF optAgg; rfl
@[simp] theorem setN_agg (o n : Nat) (v : AVal) (cs : List AVal) : setN o n v (.agg cs) = optAgg (putN o n v cs) := by unfold setN optAgg; rfl
@[simp] theorem put1_cell (o : Nat) (v : AVal) (cs : List AVal) : put1 o v cs = bif v.isCell then (if o < cs.length then some (cs.set o v) else none) else none := eq_of_heq HEq.rfl
@[simp] theorem putN_agg (o n : Nat) (xs cs : List AVal) : putN o n (.agg xs) cs = if xs.length = n ∧ o + n ≤ cs.length then some (cs.take o ++ xs ++ cs.drop (o + n)) else none := eq_of_heq HEq.rfl
@[simp] theorem ext_tup (i : Nat) (cs : List AVal) : ext i (.tup cs) = cs[i]? := eq_of_heq HEq.rfl
@[simp] theorem lenStr_str (x : List UInt8) : lenStr (.str x) = some (.int .i64 x.length) := eq_of_heq HEq.rfl
@[simp] theorem lenSl_nils : lenSl .nils = some (.int .i64 0) := eq_of_heq HEq.rfl
@[simp] theorem lenSl_sz : lenSl .sz = some (.int .i64 0) := eq_of_heq HEq.rfl
@[simp] theorem lenSl_sl (id g off n es cp : Nat) : lenSl (.sl id g off n es cp) = some (.int .i64 n) := eq_of_heq HEq.rfl
@[simp] theorem max2_int : max2 (.int k a) (.int k b) = some (.int k (max a b)) := by
  simp only [max2]; congr 2; split <;> omega
@[simp] theorem min2_int : min2 (.int k a) (.int k b) = some (.int k (min a b)) := by
  simp only [min2]; congr 2; split <;> omega
attribute [simp] eqCells eqv
@[simp] theorem eqCell_b (x y : Bool) : eqCell .b (.bool x) (.bool y) = some (decide (x = y)) := by cases x <;> cases y <;> rfl
@[simp] theorem eqCell_i : eqCell (.i k) (.int k a) (.int k b) = some (decide (a = b)) := by simp only [eqCell]; rw [if_pos ⟨trivial, trivial⟩]; rfl
@[simp] theorem eqCell_s (x y : List UInt8) : eqCell .s (.str x) (.str y) = some (decide (x = y)) := by simp only [eqCell]; congr 1; rw [Bool.eq_iff_iff]; simp
end V
@[simp] theorem optAgg_some (cs : List AVal) : optAgg (some cs) = some (.agg cs) := eq_of_heq HEq.rfl
@[simp] theorem boxN_agg (n : Nat) (cs : List AVal) : A.boxN n (.agg cs) = if cs.length = n then some (.agg cs) else none := eq_of_heq HEq.rfl
@[simp] theorem box1_eq (v : AVal) : A.box1 v = bif v.isCell then some (.agg [v]) else none := eq_of_heq HEq.rfl
@[simp] theorem cellsN_agg (n : Nat) (cs : List AVal) : A.cellsN n (.agg cs) = if cs.length = n then some cs else none := eq_of_heq HEq.rfl
@[simp] theorem cells1_eq (v : AVal) : A.cells1 v = bif v.isCell then some [v] else none := eq_of_heq HEq.rfl
attribute [simp] A.bld fillL repL
@[simp] theorem isCell_bool (b : Bool) : (AVal.bool b).isCell = true := eq_of_heq HEq.rfl
@[simp] theorem isCell_int (k : IntKind) (n : Int) : (AVal.int k n).isCell = true := eq_of_heq HEq.rfl
@[simp] theorem isCell_str (s : List UInt8) : (AVal.str s).isCell = true := eq_of_heq HEq.rfl
@[simp] theorem isCell_ptr (a b c : Nat) : (AVal.ptr a b c).isCell = true := eq_of_heq HEq.rfl
@[simp] theorem isCell_nilp : AVal.nilp.isCell = true := eq_of_heq HEq.rfl
@[simp] theorem isCell_nils : AVal.nils.isCell = true := eq_of_heq HEq.rfl
@[simp] theorem isCell_sz : AVal.sz.isCell = true := eq_of_heq HEq.rfl
@[simp] theorem isCell_sl (a b c d e f : Nat) : (AVal.sl a b c d e f).isCell = true := eq_of_heq HEq.rfl
@[simp] theorem isCell_fn (f : Nat) (a b : List AVal) : (AVal.fn f a b).isCell = true := eq_of_heq HEq.rfl
@[simp] theorem isCell_nilf : AVal.nilf.isCell = true := eq_of_heq HEq.rfl

@[simp] theorem upd_get (h : AHeap) (id : Nat) (b : Blk) : upd h id b id = some b := upd_same h id b
@[simp] theorem upd_get_ne (h : AHeap) {id i : Nat} (b : Blk) (hne : i ≠ id) : upd h id b i = h i := upd_other h b hne
@[simp] theorem upd_none (h : AHeap) (id i : Nat) (b : Blk) : upd h id b i = none ↔ i ≠ id ∧ h i = none := by
  by_cases hi : i = id
  · subst hi; simp
  · simp [hi]
attribute [simp] upd_upd

@[simp] theorem joinV_some (v : AVal) (l : List AVal) : joinV (some v) (some l) = some (v :: l) := eq_of_heq HEq.rfl
@[simp] theorem oneOf_one (v : AVal) : oneOf (some [v]) = some v := eq_of_heq HEq.rfl
@[simp] theorem oneOf_more (v w : AVal) (l : List AVal) : oneOf (some (v :: w :: l)) = some (.tup (v :: w :: l)) := eq_of_heq HEq.rfl

/-- What was there at first stays while one's own blocks are turned. -/
theorem le_own {h H : AHeap} (hle : h.le H) {id : Nat} (hid : h id = none) (b : Blk) : h.le (upd H id b) := fun i x e => by
  have : i ≠ id := fun hi => by subst hi; rw [hid] at e; cases e
  rw [upd_other _ b this]; exact hle i x e

/-! Numbers. -/
theorem wrap_i64 {n : Int} (h1 : -9223372036854775808 ≤ n) (h2 : n ≤ 9223372036854775807) : IntKind.i64.wrap n = n := by
  rw [IntKind.wrap_i64]; omega
theorem wrap_small {k : IntKind} {n : Int} (h1 : k.min ≤ n) (h2 : n ≤ k.max) : k.wrap n = n := by
  cases k <;> simp only [IntKind.wrap, IntKind.min, IntKind.max, IntKind.bits, IntKind.signed] at * <;> first | omega | (simp at *; omega)
end Go.Ab
