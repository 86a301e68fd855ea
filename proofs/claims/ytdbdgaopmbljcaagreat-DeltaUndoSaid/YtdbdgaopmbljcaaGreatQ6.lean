/- What is proved: a part of the way to the statement; each part is headed by what it proves. No conditions. -/
import Derived.Test.YtdbdgaopmbljcaaGreatQ3
import Derived.Test.YtdbdgaopmbljcaaGreatQ5
import Derived.KernelRfl
import Derived.Test.YtdbdgaopmbljcaaGreatQ2
import Derived.Lib.Bytealg

/- What is proved: arguments that are lists of plain values, read in the abstract memory. No conditions. -/
set_option linter.unusedVariables false
namespace Go.Ab
theorem arg_slice {T : Type} {H : AHeap} {bytes es : Nat} {e : Ty} {v : AVal} (cs : T → List AVal) (hd : ∀ p, AbsOk H e p → ∃ t, p = cs t) (h : AbsOk H (.sl bytes es e) [v]) :
    ∃ L : List T, SlIs H es v (L.map cs) ∧ L.length * bytes ≤ reach := by
  rcases h with h | h | ⟨id, parts, h1, h2, h3, h4⟩
  · cases h; exact ⟨[], SlX.nils H es, by simp⟩
  · cases h; exact ⟨[], SlX.sz H es, by simp⟩
  · cases h1
    have : ∃ L : List T, parts = L.map cs := by
      clear h2 h3
      induction parts with
      | nil => exact ⟨[], rfl⟩
      | cons p r ih =>
        obtain ⟨L, rfl⟩ := ih fun q hq => h4 q (by simp [hq])
        obtain ⟨t, rfl⟩ := hd p (h4 p (by simp)).1
        exact ⟨t :: L, rfl⟩
    obtain ⟨L, rfl⟩ := this
    have hl : ∀ p ∈ L.map cs ++ [], p.length = es := fun p hp => (h4 p (by simpa using hp)).2
    have hfl : (L.map cs).flatten.length = L.length * es := by
      have := flat_len (css := L.map cs) (n := es) fun p hp => (h4 p hp).2
      simpa using this
    refine ⟨L, ⟨hl, .inr ⟨id, 0, 0, (L.map cs).length, roOf (L.map cs).flatten, (L.map cs).flatten.length, rfl, by simp, h2, lookup_self .., ?_, Nat.le_refl _, ?_⟩⟩, by simpa using h3⟩
    · rw [hfl]; simp
    · simp only [roOf, List.drop_zero, List.append_nil, List.length_nil, Nat.add_zero, List.length_map]
      rw [← hfl, List.take_length]
end Go.Ab

/- What is proved: what the statements ask of lists of their own, that they lie apart: generic, whatever the elements. No conditions. -/
set_option linter.unusedVariables false
set_option linter.unusedSimpArgs false
namespace Go.Ab
variable {C : CSem} {N : Nat → Nat}

/-- How elements of a kind are loaded, stored, marked, compared. -/
structure ElOps where
  es : Nat
  bytes : Nat
  z : List AVal
  f : Nat
  kp : Option Nat
  ld : AHeap → AVal → (AVal → Prop) → Prop
  st : AHeap → AVal → AVal → (AHeap → Prop) → Prop
  eq : AHeap → AVal → AVal → (AVal → AHeap → Prop) → Prop

section
variable (E : ElOps)
@[simp] def flatG.k3 (C : CSem) (Q : AVal → AHeap → Prop) (Y1 Y2 : List AVal → AHeap → Prop) (v0 v5 v14 v15 : AVal) (h : AHeap) : Prop :=
  B.pv (V.idxS 1 v0 v14) fun v161 =>
    B.ld h v161 fun v162 =>
    B.pv (V.lenSl v162) fun v163 =>
    B.pv (V.bin .lss v15 v163) fun v164 =>
    B.cond v164
    (B.pv (V.idxS 1 v0 v14) fun v169 =>
    B.ld h v169 fun v170 =>
    B.pv (V.idxS E.es v170 v15) fun v172 =>
    E.ld h v172 fun v173 =>
    B.call C E.f [v14, v15] h (B.keepS h [(v169, none), (v172, E.kp)] (fun v176 h => E.eq h v173 v176 fun v177 h =>
    B.pv (V.un .not v177) fun v178 =>
    B.gd h v178 false (fun K => K v5 h) fun v180 h =>
    B.gd h v178 false (fun K => K v14 h) fun v181 h =>
    B.gd h v178 false (fun K => B.pv (V.idxS 1 v180 v181) fun v => K v h) fun v182 h =>
    B.gd h v178 false (fun K => B.ld h v182 fun v => K v h) fun v183 h =>
    B.gd h v178 false (fun K => K v15 h) fun v184 h =>
    B.gd h v178 false (fun K => B.pv (V.idxS E.es v183 v184) fun v => K v h) fun v185 h =>
    B.gd h v178 false (fun K => E.ld h v185 fun v => K v h) fun v186 h =>
    B.gd h v178 false (fun K => K v14 h) fun v187 h =>
    B.gd h v178 false (fun K => K v15 h) fun v188 h =>
    B.gd h v178 false (fun K => B.call C E.f [v187, v188] h (B.keepS h [(v182, none), (v185, E.kp)] K)) fun v189 h =>
    B.gd h v178 false (fun K => E.eq h v186 v189 K) fun v190 h =>
    B.gd h v178 false (fun K => B.pv (V.un .not v190) fun v => K v h) fun v191 h =>
    B.pick v178 (.bool true) v191 fun v192 =>
    B.cond v192
    (Q (.bool false) h)
    (B.pv (V.bin .add v15 (.int .i64 1)) fun v166 =>
    Y2 [v166] h))))
    (B.pv (V.bin .add v14 (.int .i64 1)) fun v157 =>
    Y1 [v157] h)
@[simp] def flatG.l5 (C : CSem) (Q : AVal → AHeap → Prop) (Y1 : List AVal → AHeap → Prop) (v0 v5 v14 : AVal) : List AVal → AHeap → (List AVal → AHeap → Prop) → Prop
  | [v15], h, Y2 => flatG.k3 E C Q Y1 Y2 v0 v5 v14 v15 h
  | _, _, _ => False
@[simp] def flatG.k12 (C : CSem) (Q : AVal → AHeap → Prop) (Y1 : List AVal → AHeap → Prop) (v0 v5 v14 : AVal) (h : AHeap) : Prop :=
  B.pv (V.lenSl v0) fun v154 =>
    B.pv (V.bin .lss v14 v154) fun v155 =>
    B.cond v155
    (LoopR (flatG.l5 E C Q Y1 v0 v5 v14) [(.int .i64 0)] h)
    (Q (.bool true) h)
@[simp] def flatG.l15 (C : CSem) (Q : AVal → AHeap → Prop) (v0 v5 : AVal) : List AVal → AHeap → (List AVal → AHeap → Prop) → Prop
  | [v14], h, Y1 => flatG.k12 E C Q Y1 v0 v5 v14 h
  | _, _, _ => False
@[simp] def flatG.k22 (C : CSem) (Q : AVal → AHeap → Prop) (Y3 : List AVal → AHeap → Prop) (v0 v5 v11 v12 : AVal) (h : AHeap) : Prop :=
  B.pv (V.idxS 1 v0 v11) fun v147 =>
    B.ld h v147 fun v148 =>
    B.appW h E.es E.bytes v148 v12 fun v150 h =>
    B.pv (V.idxS 1 v5 v11) fun v151 =>
    B.st h v151 v150 fun h =>
    B.pv (V.bin .add v11 (.int .i64 1)) fun v128 =>
    Y3 [v128] h
@[simp] def flatG.k24 (C : CSem) (Q : AVal → AHeap → Prop) (Y3 Y4 : List AVal → AHeap → Prop) (v0 v5 v11 v12 v13 : AVal) (h : AHeap) : Prop :=
  B.pv (V.bin .lss v13 (.int .i64 64)) fun v131 =>
    B.cond v131
    (B.pv (V.lenSl v0) fun v138 =>
    B.pv (V.bin .add v11 v138) fun v139 =>
    B.call C E.f [v139, v13] h fun v141 h =>
    B.pv (V.idxS E.es v12 v13) fun v142 =>
    E.st h v142 v141 fun h =>
    B.pv (V.bin .add v13 (.int .i64 1)) fun v133 =>
    Y4 [v133] h)
    (flatG.k22 E C Q Y3 v0 v5 v11 v12 h)
@[simp] def flatG.l26 (C : CSem) (Q : AVal → AHeap → Prop) (Y3 : List AVal → AHeap → Prop) (v0 v5 v11 v12 : AVal) : List AVal → AHeap → (List AVal → AHeap → Prop) → Prop
  | [v13], h, Y4 => flatG.k24 E C Q Y3 Y4 v0 v5 v11 v12 v13 h
  | _, _, _ => False
@[simp] def flatG.k37 (C : CSem) (Q : AVal → AHeap → Prop) (Y3 : List AVal → AHeap → Prop) (v0 v5 v11 : AVal) (h : AHeap) : Prop :=
  B.pv (V.lenSl v0) fun v125 =>
    B.pv (V.bin .lss v11 v125) fun v126 =>
    B.cond v126
    (0 < E.es ∧ B.mks h E.bytes (some E.z) (.int .i64 64) (.int .i64 64) fun v129 h =>
    LoopR (flatG.l26 E C Q Y3 v0 v5 v11 v129) [(.int .i64 0)] h)
    (LoopR (flatG.l15 E C Q v0 v5) [(.int .i64 0)] h)
@[simp] def flatG.l40 (C : CSem) (Q : AVal → AHeap → Prop) (v0 v5 : AVal) : List AVal → AHeap → (List AVal → AHeap → Prop) → Prop
  | [v11], h, Y3 => flatG.k37 E C Q Y3 v0 v5 v11 h
  | _, _, _ => False
@[simp] def flatG.k47 (C : CSem) (Q : AVal → AHeap → Prop) (Y5 Y6 : List AVal → AHeap → Prop) (v0 v5 v9 v10 : AVal) (h : AHeap) : Prop :=
  B.pv (V.idxS 1 v5 v9) fun v82 =>
    B.ld h v82 fun v83 =>
    B.pv (V.lenSl v83) fun v84 =>
    B.pv (V.bin .lss v10 v84) fun v85 =>
    B.cond v85
    (B.pv (V.idxS 1 v5 v9) fun v90 =>
    B.ld h v90 fun v91 =>
    B.pv (V.idxS E.es v91 v10) fun v93 =>
    E.ld h v93 fun v94 =>
    B.call C E.f [v9, v10] h (B.keepS h [(v90, none), (v93, E.kp)] (fun v97 h => E.eq h v94 v97 fun v98 h =>
    B.pv (V.un .not v98) fun v99 =>
    B.gd h v99 false (fun K => K v10 h) fun v101 h =>
    B.gd h v99 false (fun K => K v0 h) fun v102 h =>
    B.gd h v99 false (fun K => K v9 h) fun v103 h =>
    B.gd h v99 false (fun K => B.pv (V.idxS 1 v102 v103) fun v => K v h) fun v104 h =>
    B.gd h v99 false (fun K => B.ld h v104 fun v => K v h) fun v105 h =>
    B.gd h v99 false (fun K => B.pv (V.lenSl v105) fun v => K v h) fun v106 h =>
    B.gd h v99 false (fun K => B.pv (V.bin .lss v101 v106) fun v => K v h) fun v107 h =>
    B.gd h v99 false (fun K => K v107 h) fun v108 h =>
    B.gd h v108 true (fun K => K v0 h) fun v109 h =>
    B.gd h v108 true (fun K => K v9 h) fun v110 h =>
    B.gd h v108 true (fun K => B.pv (V.idxS 1 v109 v110) fun v => K v h) fun v111 h =>
    B.gd h v108 true (fun K => B.ld h v111 fun v => K v h) fun v112 h =>
    B.gd h v108 true (fun K => K v10 h) fun v113 h =>
    B.gd h v108 true (fun K => B.pv (V.idxS E.es v112 v113) fun v => K v h) fun v114 h =>
    B.gd h v108 true (fun K => E.ld h v114 fun v => K v h) fun v115 h =>
    B.gd h v108 true (fun K => K v9 h) fun v116 h =>
    B.gd h v108 true (fun K => K v10 h) fun v117 h =>
    B.gd h v108 true (fun K => B.call C E.f [v116, v117] h (B.keepS h [(v111, none), (v114, E.kp)] K)) fun v118 h =>
    B.gd h v108 true (fun K => E.eq h v115 v118 K) fun v119 h =>
    B.gd h v108 true (fun K => B.pv (V.un .not v119) fun v => K v h) fun v120 h =>
    B.gd h v99 false (fun K => B.pick v108 v120 (.bool false) fun v => K v h) fun v121 h =>
    B.pick v99 (.bool true) v121 fun v122 =>
    B.cond v122
    (Q (.bool false) h)
    (B.pv (V.bin .add v10 (.int .i64 1)) fun v87 =>
    Y6 [v87] h))))
    (B.pv (V.bin .add v9 (.int .i64 1)) fun v78 =>
    Y5 [v78] h)
@[simp] def flatG.l49 (C : CSem) (Q : AVal → AHeap → Prop) (Y5 : List AVal → AHeap → Prop) (v0 v5 v9 : AVal) : List AVal → AHeap → (List AVal → AHeap → Prop) → Prop
  | [v10], h, Y6 => flatG.k47 E C Q Y5 Y6 v0 v5 v9 v10 h
  | _, _, _ => False
@[simp] def flatG.k56 (C : CSem) (Q : AVal → AHeap → Prop) (Y5 : List AVal → AHeap → Prop) (v0 v5 v9 : AVal) (h : AHeap) : Prop :=
  B.pv (V.lenSl v0) fun v75 =>
    B.pv (V.bin .lss v9 v75) fun v76 =>
    B.cond v76
    (LoopR (flatG.l49 E C Q Y5 v0 v5 v9) [(.int .i64 0)] h)
    (LoopR (flatG.l40 E C Q v0 v5) [(.int .i64 0)] h)
@[simp] def flatG.l59 (C : CSem) (Q : AVal → AHeap → Prop) (v0 v5 : AVal) : List AVal → AHeap → (List AVal → AHeap → Prop) → Prop
  | [v9], h, Y5 => flatG.k56 E C Q Y5 v0 v5 v9 h
  | _, _, _ => False
@[simp] def flatG.k67 (C : CSem) (Q : AVal → AHeap → Prop) (Y7 Y8 : List AVal → AHeap → Prop) (v0 v5 v6 v7 v8 : AVal) (h : AHeap) : Prop :=
  B.pv (V.bin .lss v8 (.int .i64 64)) fun v54 =>
    B.cond v54
    (B.pv (V.idxS 1 v0 v6) fun v61 =>
    B.ld h v61 fun v62 =>
    B.pv (V.lenSl v62) fun v63 =>
    B.pv (V.bin .add v63 v8) fun v65 =>
    B.call C E.f [v6, v65] h fun v66 h =>
    B.newO h (fillL [(0, E.kp, v66)] (repL 1 E.z)) fun i67 h =>
    B.appW h E.es E.bytes v7 (.sl i67 0 0 1 E.es 1) fun v68 h =>
    B.pv (V.bin .add v8 (.int .i64 1)) fun v56 =>
    Y8 [v68, v56] h)
    (B.pv (V.idxS 1 v5 v6) fun v72 =>
    B.st h v72 v7 fun h =>
    B.pv (V.bin .add v6 (.int .i64 1)) fun v48 =>
    Y7 [v48] h)
@[simp] def flatG.l69 (C : CSem) (Q : AVal → AHeap → Prop) (Y7 : List AVal → AHeap → Prop) (v0 v5 v6 : AVal) : List AVal → AHeap → (List AVal → AHeap → Prop) → Prop
  | [v7, v8], h, Y8 => flatG.k67 E C Q Y7 Y8 v0 v5 v6 v7 v8 h
  | _, _, _ => False
@[simp] def flatG.k79 (C : CSem) (Q : AVal → AHeap → Prop) (Y7 : List AVal → AHeap → Prop) (v0 v5 v6 : AVal) (h : AHeap) : Prop :=
  B.pv (V.lenSl v0) fun v45 =>
    B.pv (V.bin .lss v6 v45) fun v46 =>
    B.cond v46
    (B.pv (V.idxS 1 v0 v6) fun v51 =>
    B.ld h v51 fun v52 =>
    LoopR (flatG.l69 E C Q Y7 v0 v5 v6) [v52, (.int .i64 0)] h)
    (LoopR (flatG.l59 E C Q v0 v5) [(.int .i64 0)] h)
@[simp] def flatG.l82 (C : CSem) (Q : AVal → AHeap → Prop) (v0 v5 : AVal) : List AVal → AHeap → (List AVal → AHeap → Prop) → Prop
  | [v6], h, Y7 => flatG.k79 E C Q Y7 v0 v5 v6 h
  | _, _, _ => False
@[simp] def flatG.k91 (C : CSem) (Q : AVal → AHeap → Prop) (Y9 Y10 : List AVal → AHeap → Prop) (v0 v3 v4 : AVal) (h : AHeap) : Prop :=
  B.pv (V.idxS 1 v0 v3) fun v25 =>
    B.ld h v25 fun v26 =>
    B.pv (V.lenSl v26) fun v27 =>
    B.pv (V.bin .lss v4 v27) fun v28 =>
    B.cond v28
    (B.pv (V.idxS 1 v0 v3) fun v33 =>
    B.ld h v33 fun v34 =>
    B.call C E.f [v3, v4] h (B.keepS h [(v33, none)] (fun v38 h => B.pv (V.idxS E.es v34 v4) fun v39 =>
    E.st h v39 v38 fun h =>
    B.pv (V.bin .add v4 (.int .i64 1)) fun v30 =>
    Y10 [v30] h)))
    (B.pv (V.bin .add v3 (.int .i64 1)) fun v21 =>
    Y9 [v21] h)
@[simp] def flatG.l93 (C : CSem) (Q : AVal → AHeap → Prop) (Y9 : List AVal → AHeap → Prop) (v0 v3 : AVal) : List AVal → AHeap → (List AVal → AHeap → Prop) → Prop
  | [v4], h, Y10 => flatG.k91 E C Q Y9 Y10 v0 v3 v4 h
  | _, _, _ => False
@[simp] def flatG.k100 (C : CSem) (Q : AVal → AHeap → Prop) (Y9 : List AVal → AHeap → Prop) (v0 v3 : AVal) (h : AHeap) : Prop :=
  B.pv (V.lenSl v0) fun v18 =>
    B.pv (V.bin .lss v3 v18) fun v19 =>
    B.cond v19
    (LoopR (flatG.l93 E C Q Y9 v0 v3) [(.int .i64 0)] h)
    (B.pv (V.lenSl v0) fun v41 =>
    0 < 1 ∧ B.mks h 24 (some [.nils]) v41 v41 fun v42 h =>
    LoopR (flatG.l82 E C Q v0 v42) [(.int .i64 0)] h)
@[simp] def flatG.l103 (C : CSem) (Q : AVal → AHeap → Prop) (v0 : AVal) : List AVal → AHeap → (List AVal → AHeap → Prop) → Prop
  | [v3], h, Y9 => flatG.k100 E C Q Y9 v0 v3 h
  | _, _, _ => False
def flatG (C : CSem) (v0 : AVal) (h : AHeap) (Q : AVal → AHeap → Prop) : Prop :=
  LoopR (flatG.l103 E C Q v0) [(.int .i64 0)] h
/-- Elements of several cells, compared whole. -/
def opsF (es bytes : Nat) (z : List AVal) (f : Nat) (sh : List Ck) : ElOps where
  es := es; bytes := bytes; z := z; f := f; kp := some es
  ld := fun h p K => B.ldn h p es K
  st := fun h p v K => B.stn h p es v K
  eq := fun h a b K => B.pv (V.binAgg .eql sh a b) fun v => K v h
/-- Elements of one cell. -/
def opsS (bytes : Nat) (z : AVal) (f : Nat) : ElOps where
  es := 1; bytes := bytes; z := [z]; f := f; kp := none
  ld := fun h p K => B.ld h p K
  st := fun h p v K => B.st h p v K
  eq := fun h a b K => B.pv (V.bin .eql a b) fun v => K v h
/-- Elements that hold lists, compared by a function. -/
def opsD (C : CSem) (es bytes : Nat) (z : List AVal) (f g : Nat) : ElOps where
  es := es; bytes := bytes; z := z; f := f; kp := some es
  ld := fun h p K => B.ldn h p es K
  st := fun h p v K => B.stn h p es v K
  eq := fun h a b K => B.call C g [a, b] h K
end
end Go.Ab

/- What is proved: after an append, what stood ahead of it still reads. No conditions. -/
set_option linter.unusedVariables false
set_option linter.unusedSimpArgs false
namespace Go.Ab
variable {C : CSem} {N : Nat → Nat}

def aoff : AVal → Nat
  | .sl _ _ off _ _ _ => off
  | _ => 0
theorem lookup_cut (g hi e : Nat) : ∀ (gens : List (Nat × Nat)), gens.lookup g = some hi → (cutGens gens e).lookup g = some (min hi e)
  | [], h => by cases h
  | (g', k) :: r, h => by
    unfold cutGens
    rw [List.map_cons]
    by_cases e1 : (g == g') = true
    · simp only [List.lookup, e1] at h ⊢
      rw [Option.some.inj h]
    · simp only [Bool.not_eq_true] at e1
      simp only [List.lookup, e1] at h ⊢
      exact lookup_cut g hi e r h
/-- A slice in a block that is appended to, behind its end. -/
theorem SlX.oldApp {h : AHeap} {es : Nat} {x : AVal} {L R : List (List AVal)} (hs : SlX h es x L R) {id : Nat} {b : Blk} (hf : foot x = some id) (hb : h id = some b) {e : Nat} (he : aoff x + L.length * es ≤ e) (hb2 : e ≤ b.cells.length) (news : List AVal) :
    SlX (Ab.upd h id (appBlk b e news)) es x L [] := by
  have h0 := hs.cut
  refine ⟨h0.len, ?_⟩
  rcases h0.at_ with e1 | ⟨id', g, off, cp, b', hi, h1, h1', h2, h3, h4, hh, h5⟩
  · exact .inl e1
  · subst h1
    cases hf
    rw [hb] at h2
    cases h2
    simp only [aoff] at he
    simp only [List.length_nil, Nat.add_zero] at h4 h5 h1'
    have hcells : ((b.cells.take e ++ news).drop off).take (L.length * es) = (L ++ []).flatten := by
      rw [← h5]
      apply List.ext_getElem?
      intro k
      by_cases hk : k < L.length * es
      · rw [List.getElem?_take_of_lt hk, List.getElem?_take_of_lt hk, List.getElem?_drop, List.getElem?_drop, List.getElem?_append_left (by simp; omega), List.getElem?_take_of_lt (by omega)]
      · rw [List.getElem?_take_eq_none (by omega), List.getElem?_take_eq_none (by omega)]
    by_cases hg : g = b.next
    · refine .inr ⟨_, g, off, cp, _, e + news.length, rfl, by simpa using h1', upd_same .., by simp [appBlk, hg, List.lookup], by simp; omega, by simp [appBlk]; omega, ?_⟩
      simpa [appBlk] using hcells
    · refine .inr ⟨_, g, off, cp, _, min hi e, rfl, by simpa using h1', upd_same .., ?_, by simp; omega, by simp [appBlk]; omega, ?_⟩
      · simp only [appBlk, List.lookup]
        rw [show (g == b.next) = false by simpa using hg]
        exact lookup_cut g hi e b.gens h3
      · simpa [appBlk] using hcells

/-- An older slice, read ahead of what was appended to a newer one in its block. -/
structure Old (h : AHeap) (es : Nat) (x : AVal) (L : List (List AVal)) (y : AVal) (M : List (List AVal)) : Prop where
  at_ : SlX h es x L []
  ft : foot x = none ∨ (foot x = foot y ∧ aoff x = aoff y)
  len : L.length ≤ M.length
theorem Old.refl {h : AHeap} {es : Nat} {x : AVal} {L R : List (List AVal)} (hs : SlX h es x L R) : Old h es x L x L := ⟨hs.cut, .inr ⟨rfl, rfl⟩, Nat.le_refl _⟩
theorem Old.other {h h' : AHeap} {es : Nat} {x y z : AVal} {L M : List (List AVal)} (ho : Old h es x L y M) (hb : But z h h') (hne : ∀ id, foot y = some id → foot z ≠ some id) : Old h' es x L y M :=
  ⟨hb.sl ho.at_ fun id hf => hne id (by rcases ho.ft with e | ⟨e, _⟩ <;> rw [e] at hf; cases hf; exact hf), ho.ft, ho.len⟩
theorem Old.mono {h h' : AHeap} {es : Nat} {x y : AVal} {L M : List (List AVal)} (ho : Old h es x L y M) (hle : h.le h') : Old h' es x L y M := ⟨ho.at_.mono hle, ho.ft, ho.len⟩

section
variable {h H h0 : AHeap} {es : Nat} {x : AVal} {L R : List (List AVal)}
/-- Elements appended to a slice in a block of one's own: older slices in it still read. -/
theorem SlX.app2 {bytes : Nat} {M : List (List AVal)} {K : AVal → AHeap → Prop} (ho : SlX h es x L R) (hown : ∀ id b, foot x = some id → h id = some b → b.own = true) (hes : 0 < es) (hM : ∀ p ∈ M, p.length = es) (hb : (L.length + M.length) * bytes ≤ 140737488355328) (hm : L.length + M.length ≤ maxLen)
    (hk : ∀ x' h', SlIs h' es x' (L ++ M) → (∀ id b, foot x' = some id → h' id = some b → b.own = true) → But x h h' → (foot x' = foot x ∨ ∀ id, foot x' = some id → h id = none) → (∀ u U, Old h es u U x L → Old h' es u U x' (L ++ M)) → K x' h') : A.app h es bytes x (some M.flatten) K := by
  have hl := flat_len hM
  have hd : M.flatten.length / es = M.length := by rw [hl, Nat.mul_div_cancel _ hes]
  have hall : ∀ p ∈ (L ++ M) ++ [], p.length = es := fun p hp => by
    rw [List.append_nil] at hp
    rcases List.mem_append.1 hp with hp | hp
    · exact ho.len p (List.mem_append_left _ hp)
    · exact hM p hp
  have fresh : L = [] → foot x = none → (M ≠ [] → (M.flatten.length / es) * bytes ≤ 140737488355328 ∧ M.flatten.length / es ≤ maxLen ∧ A.new h M.flatten fun id h => K (.sl id 0 0 (M.flatten.length / es) es (M.flatten.length / es)) h) := fun e hfx hne => by
    subst e
    rw [hd]
    simp only [List.length_nil, Nat.zero_add] at hb hm
    refine ⟨hb, hm, fun id hid => ?_⟩
    refine hk _ _ ⟨hall, .inr ⟨id, 0, 0, _, blkOf M.flatten, M.flatten.length, by simp only [List.nil_append]; exact rfl, by simp, upd_same .., lookup_self .., by simp [hl], Nat.le_refl _, ?_⟩⟩ (fun j b hj hb' => ?_) (But.of_le _ (le_upd _ hid)) (.inr fun j hj => ?_) (fun u U hu => ⟨hu.at_.mono (le_upd _ hid), .inl ?_, ?_⟩)
    · simp only [List.nil_append, List.append_nil, List.length_nil, Nat.add_zero, ← hl, blkOf, List.drop_zero, List.take_length]
    · cases hj
      rw [upd_same] at hb'; cases hb'; rfl
    · cases hj; exact hid
    · rcases hu.ft with e | ⟨e, _⟩
      · exact e
      · rw [e, hfx]
    · have := hu.len; simp at this; simp [this]
  have hnil : M = [] ∨ M.flatten.length ≠ 0 := by
    cases M with
    | nil => exact .inl rfl
    | cons a r =>
      refine .inr ?_
      rw [hl, List.length_cons, Nat.add_mul]
      omega
  have h0 := ho.cut
  rcases h0.at_ with ⟨e, _, e' | e'⟩ | ⟨id, g, off, cp, b, hi, h1, h1', h2, h3, h4, hh, h5⟩
  · subst e'
    simp only [A.app]
    split
    · rename_i hz
      rcases hnil with hn | hn
      · subst hn; exact hk _ _ (by simpa using h0) (fun _ _ hj => by cases hj) (But.of_le _ (AHeap.le_refl h)) (.inl rfl) (fun u U hu => by simpa using hu)
      · exact absurd hz hn
    · rename_i hz
      exact fresh e rfl fun hn => hz (by rw [hn]; rfl)
  · subst e'
    simp only [A.app]
    split
    · rename_i hz
      rcases hnil with hn | hn
      · subst hn; exact hk _ _ (by simpa using h0) (fun _ _ hj => by cases hj) (But.of_le _ (AHeap.le_refl h)) (.inl rfl) (fun u U hu => by simpa using hu)
      · exact absurd hz hn
    · rename_i hz
      exact fresh e rfl fun hn => hz (by rw [hn]; rfl)
  · have hown' := hown id b (by rw [h1]; rfl) h2
    subst h1
    simp only [List.length_nil, Nat.add_zero, List.append_nil] at h4 h5
    simp only [A.app, h2, h3, hd]
    have hcl : off + L.length * es ≤ b.cells.length := by omega
    have htl : (b.cells.take (off + L.length * es)).length = off + L.length * es := by simp; omega
    refine ⟨trivial, hown', h4, hb, hm, hk _ _ ⟨hall, .inr ⟨id, b.next, off, _, _, off + L.length * es + M.flatten.length, by rw [List.length_append], by simp, upd_same .., lookup_self .., ?_, ?_, ?_⟩⟩ (fun j b1 hj hb1 => ?_) (fun j b1 e1 e2 => ?_) (.inl rfl) (fun u U hu => ⟨?_, ?_, ?_⟩)⟩
    · rw [List.length_append, List.length_nil, Nat.add_zero, Nat.add_mul, hl]; omega
    · simp only [appBlk, List.length_append, htl]; omega
    · simp only [appBlk, List.append_nil, List.length_nil, Nat.add_zero]
      rw [List.drop_append_of_le_length (by omega), List.length_append, Nat.add_mul, ← hl, List.flatten_append, ← h5]
      have e1 : (b.cells.take (off + L.length * es)).drop off = (b.cells.drop off).take (L.length * es) := by
        rw [List.drop_take]; congr 1; omega
      have e2 : ((b.cells.drop off).take (L.length * es)).length = L.length * es := by simp; omega
      rw [e1, List.take_of_length_le]
      rw [List.length_append, e2]; omega
    · cases hj
      rw [upd_same] at hb1; cases hb1; exact hown'
    · rw [upd_other]
      · exact e1
      · intro e; subst e; exact e2 rfl
    · by_cases hf : foot u = some id
      · refine hu.at_.oldApp hf h2 ?_ hcl _
        have e1 := hu.len
        have e2 : aoff u = off := by
          rcases hu.ft with e | ⟨_, e⟩
          · rw [e] at hf; cases hf
          · exact e
        rw [e2]
        have := Nat.mul_le_mul_right es e1
        omega
      · exact hu.at_.upd hf
    · rcases hu.ft with e | ⟨e, e'⟩
      · exact .inl e
      · exact .inr ⟨e, e'⟩
    · have := hu.len; rw [List.length_append]; omega
theorem SlX.appW2 {bytes : Nat} {y : AVal} {M R' : List (List AVal)} {K : AVal → AHeap → Prop} (ho : SlX h es x L R) (hown : ∀ id b, foot x = some id → h id = some b → b.own = true) (hs : SlX h es y M R') (hes : 0 < es) (hb : (L.length + M.length) * bytes ≤ 140737488355328) (hm : L.length + M.length ≤ maxLen)
    (hk : ∀ x' h', SlIs h' es x' (L ++ M) → (∀ id b, foot x' = some id → h' id = some b → b.own = true) → But x h h' → (foot x' = foot x ∨ ∀ id, foot x' = some id → h id = none) → (∀ u U, Old h es u U x L → Old h' es u U x' (L ++ M)) → K x' h') : A.appW h es bytes x y K := by
  unfold A.appW
  rw [hs.srcLen]
  simp only
  rw [hs.rdv]
  exact ho.app2 hown hes (fun p hp => hs.len p (List.mem_append_left _ hp)) hb hm hk
end
section
variable {h0 h h' : AHeap} {l : List Ob}
theorem Owns.ne (ho : Owns h0 h l) {i j : Nat} {a b : Ob} (hi : l[i]? = some a) (hj : l[j]? = some b) (hij : i ≠ j) : ∀ id, a.foot = some id → b.foot ≠ some id := fun id ha hb => by
  rcases Nat.lt_or_gt_of_ne hij with hlt | hgt
  · have := List.pairwise_iff_getElem.1 ho.apart i j (List.getElem?_eq_some_iff.1 hi).1 (List.getElem?_eq_some_iff.1 hj).1 hlt
    rw [(List.getElem?_eq_some_iff.1 hi).2, (List.getElem?_eq_some_iff.1 hj).2] at this
    exact this id ha hb
  · have := List.pairwise_iff_getElem.1 ho.apart j i (List.getElem?_eq_some_iff.1 hj).1 (List.getElem?_eq_some_iff.1 hi).1 hgt
    rw [(List.getElem?_eq_some_iff.1 hj).2, (List.getElem?_eq_some_iff.1 hi).2] at this
    exact this id hb ha
end

/-- Loads that tell something. -/
def Kp (h : AHeap) (p : AVal) (o : Option Nat) : Prop := match o with | none => ∃ x, A.ldv h p = some x | some n => ∃ x, A.ldnv h p n = some x
/-! Lists of lists. -/
def upf {α : Type} (f : Nat → α) (k : Nat) (v : α) : Nat → α := fun j => if j = k then v else f j
def Objs (es n : Nat) (xs : Nat → AVal) (D R : Nat → List (List AVal)) : List Ob := (List.range n).map fun j => Ob.sl es (xs j) (D j) (R j)
section
variable {es n k : Nat} {xs : Nat → AVal} {D R : Nat → List (List AVal)}
@[simp] theorem Objs.length : (Objs es n xs D R).length = n := by simp [Objs]
theorem Objs.get (hk : k < n) : (Objs es n xs D R)[k]? = some (.sl es (xs k) (D k) (R k)) := by simp [Objs, hk]
theorem Objs.set {x : AVal} {L M : List (List AVal)} : (Objs es n xs D R).set k (.sl es x L M) = Objs es n (upf xs k x) (upf D k L) (upf R k M) := by
  apply List.ext_getElem?
  intro j
  by_cases hj : j < n
  · rw [Objs.get hj]
    by_cases e : k = j
    · subst e; rw [List.getElem?_set_self (by simpa using hj)]; simp [upf]
    · rw [List.getElem?_set_ne e, Objs.get hj]; simp [upf, Ne.symm e]
  · rw [List.getElem?_eq_none (by simp; omega), List.getElem?_eq_none (by simp; omega)]
theorem Objs.congr {ys : Nat → AVal} {E S : Nat → List (List AVal)} (h : ∀ j, j < n → xs j = ys j ∧ D j = E j ∧ R j = S j) : Objs es n xs D R = Objs es n ys E S :=
  List.map_congr_left fun j hj => by obtain ⟨a, b, c⟩ := h j (by simpa using hj); rw [a, b, c]
theorem Objs.getA {l : List Ob} (hk : k < n) : (Objs es n xs D R ++ l)[k]? = some (.sl es (xs k) (D k) (R k)) := by
  rw [List.getElem?_append_left (by simpa using hk)]; exact Objs.get hk
theorem Objs.setA {l : List Ob} (hk : k < n) {x : AVal} {L M : List (List AVal)} : (Objs es n xs D R ++ l).set k (.sl es x L M) = Objs es n (upf xs k x) (upf D k L) (upf R k M) ++ l := by
  rw [List.set_append_left _ _ (by simpa using hk), Objs.set]
theorem Objs.getL {o : Ob} : (Objs es n xs D R ++ [o])[n]? = some o := by
  rw [List.getElem?_append_right (by simp)]; simp
theorem Objs.setL {o o' : Ob} : (Objs es n xs D R ++ [o]).set n o' = Objs es n xs D R ++ [o'] := by
  rw [List.set_append_right _ _ (by simp)]; simp
end
theorem Owns.cutR {h0 h : AHeap} {es n : Nat} {xs : Nat → AVal} {D R : Nat → List (List AVal)} {l : List Ob} (ho : Owns h0 h (Objs es n xs D R ++ l)) : Owns h0 h (Objs es n xs D (fun _ => []) ++ l) := by
  have mem : ∀ o ∈ Objs es n xs D (fun _ => []), ∃ o' ∈ Objs es n xs D R, o'.foot = o.foot ∧ (o'.at h → o.at h) := fun o hm => by
    obtain ⟨j, hj, rfl⟩ := List.mem_map.1 hm
    exact ⟨_, List.mem_map.2 ⟨j, hj, rfl⟩, rfl, fun h => SlX.cut h⟩
  refine ⟨ho.le, fun o hm => ?_, fun o hm => ?_, ?_⟩
  · rcases List.mem_append.1 hm with hm | hm
    · obtain ⟨o', h1, _, h3⟩ := mem o hm
      exact h3 (ho.is _ (List.mem_append_left _ h1))
    · exact ho.is _ (List.mem_append_right _ hm)
  · rcases List.mem_append.1 hm with hm | hm
    · obtain ⟨o', h1, h2, _⟩ := mem o hm
      rw [← h2]
      exact ho.own _ (List.mem_append_left _ h1)
    · exact ho.own _ (List.mem_append_right _ hm)
  · obtain ⟨a, b, c⟩ := List.pairwise_append.1 ho.apart
    refine List.pairwise_append.2 ⟨?_, b, fun x hx y hy => ?_⟩
    · unfold Objs at a ⊢
      rw [List.pairwise_map] at a ⊢
      exact a.imp fun h => h
    · obtain ⟨o', h1, h2, _⟩ := mem x hx
      rw [← h2]
      exact c o' h1 y hy
end Go.Ab

/- What is proved: what the statements ask of lists that lie apart holds of lists of one's own, whatever the elements. No conditions. -/
set_option linter.unusedVariables false
set_option linter.unusedSimpArgs false
namespace Go.Ab
variable {C : CSem} {N : Nat → Nat}

/-- What is asked of a kind of elements: marks m (their cells), v (as values). -/
structure ElSpec (C : CSem) (E : ElOps) (m : Int → Int → List AVal) (v : Int → Int → AVal) : Prop where
  pos : 0 < E.es
  small : E.bytes ≤ 1000
  len : ∀ k i, (m k i).length = E.es
  zlen : E.z.length = E.es
  new : ∀ k i, fillL [(0, E.kp, v k i)] (repL 1 E.z) = some (m k i)
  call : ∀ (k i : Int) (h : AHeap) (Q : AVal → AHeap → Prop), Q (v k i) h → C E.f [.int .i64 k, .int .i64 i] h Q
  ld : ∀ {h : AHeap} {x : AVal} {L R : List (List AVal)} {i : Nat} {k j : Int} {K : AVal → Prop}, SlX h E.es x L R → L[i]? = some (m k j) → K (v k j) → E.ld h (elp E.es x i 0) K
  kpt : ∀ {h : AHeap} {x : AVal} {L R : List (List AVal)} {i : Nat} {k j : Int}, SlX h E.es x L R → L[i]? = some (m k j) → Kp h (elp E.es x i 0) E.kp
  st : ∀ {h : AHeap} {x : AVal} {L R : List (List AVal)} {i : Nat} {c : List AVal} {k j : Int} {K : AHeap → Prop}, SlX h E.es x L R → (∀ id b, foot x = some id → h id = some b → b.own = true) → L[i]? = some c →
    (∀ h', SlX h' E.es x (L.set i (m k j)) R → (∀ id b, foot x = some id → h' id = some b → b.own = true) → But x h h' → K h') → E.st h (elp E.es x i 0) (v k j) K
  eq : ∀ {h : AHeap} {k i : Int} {K : AVal → AHeap → Prop}, K (.bool true) h → E.eq h (v k i) (v k i) K

def mkTo (m : Int → Int → List AVal) (k n : Nat) : List (List AVal) := (List.range n).map fun (i : Nat) => m (k : Int) (i : Int)
section
variable {m : Int → Int → List AVal} {k n i : Nat}
@[simp] theorem mkTo_len : (mkTo m k n).length = n := by simp [mkTo]
@[simp] theorem mkTo_zero : mkTo m k 0 = [] := rfl
end
theorem upf_self {α : Type} (f : Nat → α) (k : Nat) (v : α) : upf f k v k = v := by simp [upf]
theorem upf_ne {α : Type} (f : Nat → α) {k j : Nat} (v : α) (h : j ≠ k) : upf f k v j = f j := by simp [upf, h]
theorem upf_same {α : Type} (f : Nat → α) (k : Nat) : upf f k (f k) = f := by funext j; unfold upf; split <;> simp_all
theorem upf_const {α : Type} (k : Nat) (v : α) : upf (fun _ => v) k v = fun _ => v := by funext j; unfold upf; split <;> rfl
theorem upf_upf {α : Type} (f : Nat → α) (k : Nat) (v w : α) : upf (upf f k v) k w = upf f k w := by funext j; unfold upf; split <;> rfl

section
variable {h : AHeap} {x : AVal} {n k : Nat} {xs : Nat → AVal} {W : List (List AVal)} (hx : SlX h 1 x (fills n fun j => [xs j]) W)
include hx
theorem ls_len : V.lenSl x = some (.int .i64 n) := by rw [hx.lenSl, fills_len]
theorem ls_idx (hk : k < n) : V.idxS 1 x (.int .i64 (k : Int)) = some (elp 1 x k 0) := hx.idxN (by simpa using hk)
theorem ls_ld (hk : k < n) : A.ldv h (elp 1 x k 0) = some (xs k) := by rw [hx.ldv (fills_get _ hk) (by omega)]; rfl
end

/-- The lists as they were (marked), the newer ones, and the list of these. -/
structure FS (E : ElOps) (m : Int → Int → List AVal) (h0 h : AHeap) (v5 : AVal) (n : Nat) (xs : Nat → AVal) (len : Nat → Nat) (ys : Nat → AVal) (F : Nat → List (List AVal)) (gs : Nat → AVal) : Prop where
  own : Owns h0 h (Objs E.es n ys F (fun _ => []) ++ [.sl 1 v5 (fills n fun j => [gs j]) []])
  old : ∀ j, j < n → Old h E.es (xs j) (mkTo m j (len j)) (ys j) (F j)

section
variable {E : ElOps} {m : Int → Int → List AVal} {v : Int → Int → AVal} {h0 h h' : AHeap} {x v5 : AVal} {n k : Nat} {xs ys gs : Nat → AVal} {len : Nat → Nat} {F : Nat → List (List AVal)} {W : List (List AVal)} {Q : AVal → AHeap → Prop}

theorem FS.grow (fs : FS E m h0 h v5 n xs len ys F gs) (hle : h.le h') : FS E m h0 h' v5 n xs len ys F gs := ⟨fs.own.grow hle, fun j hj => (fs.old j hj).mono hle⟩
theorem FS.gAt (fs : FS E m h0 h v5 n xs len ys F gs) : SlX h 1 v5 (fills n fun j => [gs j]) [] := fs.own.slAt n Objs.getL
theorem FS.yAt (fs : FS E m h0 h v5 n xs len ys F gs) (hk : k < n) : SlX h E.es (ys k) (F k) [] := fs.own.slAt k (Objs.getA hk)
theorem FS.turn (fs : FS E m h0 h v5 n xs len ys F gs) (hk : k < n) {y : AVal} {L : List (List AVal)} (h1 : SlX h' E.es y L []) (h2 : ∀ id b, foot y = some id → h' id = some b → b.own = true)
    (h3 : ∀ j b, h j = some b → foot (ys k) ≠ some j → h' j = some b) (h4 : foot y = foot (ys k) ∨ ∀ id, foot y = some id → h id = none) (h5 : Old h' E.es (xs k) (mkTo m k (len k)) y L) : FS E m h0 h' v5 n xs len (upf ys k y) (upf F k L) gs := by
  refine ⟨?_, fun j hj => ?_⟩
  · have := fs.own.turn k (Objs.getA hk) (o' := .sl E.es y L []) h1 h2 h3 h4
    rwa [Objs.setA hk, upf_const] at this
  · by_cases e : j = k
    · subst e; rw [upf_self, upf_self]; exact h5
    · rw [upf_ne _ _ e, upf_ne _ _ e]
      exact (fs.old j hj).other (z := ys k) h3 (fs.own.ne (Objs.getA hj) (Objs.getA hk) e)
theorem FS.store (fs : FS E m h0 h v5 n xs len ys F gs) (hk : k < n) {y : AVal} (hy : y.isCell = true) {K : AHeap → Prop} (hK : ∀ h', FS E m h0 h' v5 n xs len ys F (upf gs k y) → K h') : A.st h (elp 1 v5 k 0) y K := by
  refine fs.own.st n Objs.getL (fills_get _ hk) (by omega) hy fun h' ho hb => hK h' ⟨?_, fun j hj => ?_⟩
  · rw [Objs.setL] at ho
    have e : (fills n fun j => [gs j]).set k ([gs k].set 0 y) = fills n fun j => [upf gs k y j] := by
      rw [fills_set]
      refine fills_congr fun j hj => ?_
      unfold upf
      split <;> rfl
    rwa [e] at ho
  · exact (fs.old j hj).other hb (fs.own.ne (Objs.getA hj) Objs.getL (by omega))
theorem FS.push (S : ElSpec C E m v) (fs : FS E m h0 h v5 n xs len ys F gs) (hk : k < n) {cs : List AVal} (hcs : cs.length = E.es) (hl : (F k).length ≤ 100000100) {K : AVal → AHeap → Prop}
    (hK : ∀ y h', FS E m h0 h' v5 n xs len (upf ys k y) (upf F k (F k ++ [cs])) gs → K y h') : A.newO h (some cs) fun i h => A.appW h E.es E.bytes (ys k) (.sl i 0 0 1 E.es 1) K := fun i hi => by
  have fg := fs.grow (le_upd (blkOf cs) hi)
  have hmul := Nat.mul_le_mul (show (F k).length + 1 ≤ 100000101 by omega) S.small
  refine (fg.yAt hk).appW2 (fg.own.ownAt k (Objs.getA hk)) (M := [cs]) (R' := []) (SlX.lit (upd_same ..) (by simpa using hcs) rfl (by simp) (by simp)) S.pos (by simp only [List.length_singleton]; omega) (by simp [maxLen]; omega) fun y h' h1 h2 h3 h4 h5 => ?_
  exact hK y h' (fg.turn hk h1 h2 h3 h4 (h5 _ _ (fg.old k hk)))

end
end Go.Ab

/- What is proved: contracts of what the statements share about lists of numbers, texts: are they the same, lent with marks, kept; lists written over, and copied. No conditions. -/
set_option linter.unusedVariables false
set_option linter.unusedSimpArgs false
namespace Go.Ab
variable {C : CSem} {N : Nat → Nat}

/-- A type whose values stand as one cell. -/
structure Scal (T : Type) [DecidableEq T] where
  c : T → AVal
  cell : ∀ t, (c t).isCell = true
  eql : ∀ a b, V.bin .eql (c a) (c b) = some (.bool (decide (a = b)))
  neq : ∀ a b, V.bin .neq (c a) (c b) = some (.bool (!decide (a = b)))
theorem SlX.cell {h : AHeap} {x c : AVal} {L R : List (List AVal)} {i : Nat} (hs : SlX h 1 x L R) (hc : L[i]? = some [c]) : A.ldv h (elp 1 x i 0) = some c := by
  rw [hs.ldv hc (by omega)]; rfl
section
variable {T : Type} [DecidableEq T] (F : Scal T)
abbrev Scal.cs (t : T) : List AVal := [F.c t]

@[simp] def sameS.k2 (Q : AVal → AHeap → Prop) (Y1 : List AVal → AHeap → Prop) (v0 v1 v5 : AVal) (h : AHeap) : Prop :=
  B.pv (V.lenSl v0) fun v13 =>
    B.pv (V.bin .lss v5 v13) fun v14 =>
    B.cond v14
    (B.pv (V.idxS 1 v0 v5) fun v19 =>
    B.ld h v19 fun v20 =>
    B.pv (V.idxS 1 v1 v5) fun v23 =>
    B.ld h v23 fun v24 =>
    B.pv (V.bin .neq v20 v24) fun v25 =>
    B.cond v25
    (Q (.bool false) h)
    (B.pv (V.bin .add v5 (.int .i64 1)) fun v16 =>
    Y1 [v16] h))
    (Q (.bool true) h)
@[simp] def sameS.l4 (Q : AVal → AHeap → Prop) (v0 v1 : AVal) : List AVal → AHeap → (List AVal → AHeap → Prop) → Prop
  | [v5], h, Y1 => sameS.k2 Q Y1 v0 v1 v5 h
  | _, _, _ => False
def sameS (v0 v1 : AVal) (h : AHeap) (Q : AVal → AHeap → Prop) : Prop :=
  B.pv (V.lenSl v0) fun v7 =>
    B.pv (V.lenSl v1) fun v9 =>
    B.pv (V.bin .neq v7 v9) fun v10 =>
    B.cond v10
    (Q (.bool false) h)
    (LoopR (sameS.l4 Q v0 v1) [(.int .i64 0)] h)
theorem sameS_spec {x y : AVal} {L M : List T} {R S : List (List AVal)} {h : AHeap} {Q : AVal → AHeap → Prop} (hx : SlX h 1 x (L.map F.cs) R) (hy : SlX h 1 y (M.map F.cs) S) (hlen : L.length < 4611686018427387904)
    (hq : Q (.bool (decide (L = M))) h) : sameS x y h Q := by
  have hlx := hx.lenSl
  have hly := hy.lenSl
  rw [List.length_map] at hlx hly
  simp -dsimp [sameS, hlx, hly]
  refine B.cond_bool (fun hb => ?_) (fun hb => ?_) <;> simp -dsimp at hb ⊢
  · rw [decide_eq_false fun e => hb (by rw [e])] at hq
    exact hq
  · refine LoopR.intro (fun n vs hh => ∃ k, k + n = L.length ∧ vs = [.int .i64 k] ∧ hh = h ∧ L.take k = M.take k) L.length ?_ ⟨0, by simp, by simp, rfl, by simp⟩
    rintro Y n vs _ ⟨k, hn, rfl, rfl, he⟩ hY
    simp -dsimp [hlx]
    refine B.cond_bool (fun hc => ?_) (fun hc => ?_) <;> simp -dsimp at hc ⊢
    · obtain ⟨w, hw⟩ := get_lt hc
      obtain ⟨u, hu⟩ := get_lt (L := M) (k := k) (by omega)
      have hk : k < (L.map F.cs).length := by simpa using hc
      have hk2 : k < (M.map F.cs).length := by simp; omega
      simp only [hx.idxN hk, hy.idxN hk2, hx.cell (get_map hw), hy.cell (get_map hu), B.pv_some, B.ld_eq, F.neq]
      refine B.cond_bool (fun hd => ?_) (fun hd => ?_) <;> simp -dsimp at hd ⊢
      · rw [decide_eq_false fun e => by subst e; rw [hw] at hu; cases hu; exact hd rfl] at hq
        exact hq
      · simp [inc64 (n := k) (by omega)]
        refine hY (L.length - (k + 1)) _ _ (by omega) ⟨k + 1, by omega, by simp, rfl, ?_⟩
        rw [take_succ hw, take_succ hu, he, hd]
    · rw [List.take_of_length_le (by omega), List.take_of_length_le (by omega)] at he
      rw [decide_eq_true he] at hq
      exact hq

/-- The cmarks behind a list that is lent. -/
def cmarks (mk : Int → T) (n : Nat) : List (List AVal) := (List.range n).map fun (i : Nat) => F.cs (mk (i : Int))
@[simp] theorem cmarks_len (mk : Int → T) (n : Nat) : (cmarks F mk n).length = n := by simp [cmarks]
theorem cmarks_get (mk : Int → T) {n k : Nat} (hk : k < n) : (cmarks F mk n)[k]? = some (F.cs (mk k)) := by simp [cmarks, hk]
theorem cmarks_succ (mk : Int → T) (n : Nat) : cmarks F mk (n + 1) = cmarks F mk n ++ [F.cs (mk n)] := by simp [cmarks, List.range_succ]

@[simp] def lentS.k2 (C : CSem) (bytes f : Nat) (z : AVal) (m : Int) (Q : AVal → AHeap → Prop) (Y1 : List AVal → AHeap → Prop) (v0 v3 v4 : AVal) (h : AHeap) : Prop :=
  B.pv (V.bin .lss v4 (.int .i64 12)) fun v13 =>
    B.cond v13
    (B.call C f [(.int .i64 m), v4] h fun v18 h =>
    B.newO h (fillL [(0, none, v18)] (repL 1 [z])) fun i19 h =>
    B.appW h 1 bytes v3 (.sl i19 0 0 1 1 1) fun v20 h =>
    B.pv (V.bin .add v4 (.int .i64 1)) fun v15 =>
    Y1 [v20, v15] h)
    (B.pv (V.lenSl v0) fun v23 =>
    B.pv (V.cutSl 1 v3 none (some v23)) fun v24 =>
    Q v24 h)
@[simp] def lentS.l4 (C : CSem) (bytes f : Nat) (z : AVal) (m : Int) (Q : AVal → AHeap → Prop) (v0 : AVal) : List AVal → AHeap → (List AVal → AHeap → Prop) → Prop
  | [v3, v4], h, Y1 => lentS.k2 C bytes f z m Q Y1 v0 v3 v4 h
  | _, _, _ => False
def lentS (C : CSem) (bytes f : Nat) (z : AVal) (m : Int) (v0 : AVal) (h : AHeap) (Q : AVal → AHeap → Prop) : Prop :=
  B.pv (V.lenSl v0) fun v6 =>
    B.pv (V.bin .add v6 (.int .i64 12)) fun v7 =>
    0 < 1 ∧ B.mks h bytes (some [z]) (.int .i64 0) v7 fun v8 h =>
    B.appW h 1 bytes v8 v0 fun v11 h =>
    LoopR (lentS.l4 C bytes f z m Q v0) [v11, (.int .i64 0)] h
theorem lentS_specL {bytes f : Nat} {z : AVal} {m : Int} {mk : Int → T} (s1 : ∀ (i : Int) (h : AHeap) (Q : AVal → AHeap → Prop), Q (F.c (mk i)) h → C f [.int .i64 m, .int .i64 i] h Q)
    {x : AVal} {L : List T} {R : List (List AVal)} {h : AHeap} {Q : AVal → AHeap → Prop} (hx : SlX h 1 x (L.map F.cs) R) (hlen : L.length ≤ 4611686018427387000) (hbm : (L.length + 12) * bytes ≤ 140737488355328)
    (hq : ∀ x' h', Owns h h' [.sl 1 x' (L.map F.cs) (cmarks F mk 12)] → Q x' h') : lentS C bytes f z m x h Q := by
  have hlx := hx.lenSl
  rw [List.length_map] at hlx
  have hmul : ∀ n : Nat, n ≤ L.length + 12 → n * bytes ≤ 140737488355328 := fun n hn => Nat.le_trans (Nat.mul_le_mul_right bytes hn) hbm
  have e1 : IntKind.i64.wrap ((L.length : Int) + 12) = (L.length : Int) + 12 := wrap_i64 (by omega) (by omega)
  simp -dsimp [lentS, hlx, e1]
  refine (Owns.start h).mks (es := 1) rfl (by omega) (by omega) ?_ (by omega) fun y h1 ho => ?_
  · have := hmul (L.length + 12) (by omega)
    have e : ((L.length : Int) + 12) * bytes = ((L.length + 12) * bytes : Nat) := by simp
    rw [e]; omega
  refine ho.appW 0 rfl (hx.mono ho.le) Nat.one_pos (by simpa using hmul L.length (by omega)) (by simp [maxLen]; omega) fun y2 h2 ho2 _ => ?_
  refine LoopR.intro (fun n vs hh => ∃ k y, k + n = 12 ∧ vs = [y, .int .i64 k] ∧ Owns h hh [.sl 1 y (L.map F.cs ++ cmarks F mk k) []]) 12 ?_ ⟨0, y2, by simp, by simp, by simpa [cmarks] using ho2⟩
  rintro Y n vs hh ⟨k, y3, hn, rfl, ho3⟩ hY
  simp -dsimp [hlx]
  refine B.cond_bool (fun hc => ?_) (fun hc => ?_) <;> simp -dsimp at hc ⊢
  · refine s1 _ _ _ ?_
    have hfill : fillL [(0, none, F.c (mk k))] (repL 1 [z]) = some (F.cs (mk k)) := by
      simp [F.cell, repL]
    rw [hfill]
    refine ho3.push 0 rfl rfl Nat.one_pos (by simp; have := hmul (L.length + k + 1) (by omega); omega) (by simp [maxLen]; omega) fun z' h4 ho4 _ => ?_
    simp [inc64 (n := k) (by omega)]
    refine hY (12 - (k + 1)) _ _ (by omega) ⟨k + 1, z', by omega, by simp, ?_⟩
    rw [cmarks_succ, ← List.append_assoc]
    exact ho4
  · have : k = 12 := by omega
    subst this
    obtain ⟨x', e2, e3, e4⟩ := (ho3.slAt 0 rfl).slice Nat.one_pos (lo := 0) (hi := L.length) (a := none) (b := some (.int .i64 L.length)) (.inl ⟨rfl, rfl⟩) (.inr ⟨_, rfl⟩) (by omega) (by simp)
    simp -dsimp [hlx, e2]
    refine hq _ _ (ho3.turn 0 rfl (o' := .sl 1 x' (L.map F.cs) (cmarks F mk 12)) ?_ (fun id b hf hb => ho3.ownAt 0 rfl id b (by show foot y3 = some id; rw [← e4]; exact hf) hb) (fun j b hb _ => hb) (.inl e4))
    have h1 : ((L.map F.cs ++ cmarks F mk 12 ++ []).take L.length).drop 0 = L.map F.cs := by simp [List.take_append_of_le_length]
    have h2 : (L.map F.cs ++ cmarks F mk 12 ++ []).drop L.length = cmarks F mk 12 := by simp [List.drop_append_of_le_length]
    rw [h1, h2] at e3
    exact e3

@[simp] def keptS.k2 (C : CSem) (f : Nat) (m : Int) (Q : AVal → AHeap → Prop) (Y1 : List AVal → AHeap → Prop) (v1 v5 v6 : AVal) (h : AHeap) : Prop :=
  B.pv (V.lenSl v5) fun v19 =>
    B.pv (V.bin .lss v6 v19) fun v20 =>
    B.cond v20
    (B.pv (V.lenSl v1) fun v25 =>
    B.pv (V.bin .lss v6 v25) fun v26 =>
    B.gd h v26 true (fun K => K v5 h) fun v28 h =>
    B.gd h v26 true (fun K => K v6 h) fun v29 h =>
    B.gd h v26 true (fun K => B.pv (V.idxS 1 v28 v29) fun v => K v h) fun v30 h =>
    B.gd h v26 true (fun K => B.ld h v30 fun v => K v h) fun v31 h =>
    B.gd h v26 true (fun K => K v1 h) fun v32 h =>
    B.gd h v26 true (fun K => K v6 h) fun v33 h =>
    B.gd h v26 true (fun K => B.pv (V.idxS 1 v32 v33) fun v => K v h) fun v34 h =>
    B.gd h v26 true (fun K => B.ld h v34 fun v => K v h) fun v35 h =>
    B.gd h v26 true (fun K => B.pv (V.bin .eql v31 v35) fun v => K v h) fun v36 h =>
    B.gd h v26 true (fun K => B.pv (V.un .not v36) fun v => K v h) fun v37 h =>
    B.pick v26 v37 (.bool false) fun v38 =>
    B.gd h v38 false (fun K => K v6 h) fun v40 h =>
    B.gd h v38 false (fun K => K v1 h) fun v41 h =>
    B.gd h v38 false (fun K => B.pv (V.lenSl v41) fun v => K v h) fun v42 h =>
    B.gd h v38 false (fun K => B.pv (V.bin .geq v40 v42) fun v => K v h) fun v43 h =>
    B.gd h v38 false (fun K => K v43 h) fun v44 h =>
    B.gd h v44 true (fun K => K v5 h) fun v45 h =>
    B.gd h v44 true (fun K => K v6 h) fun v46 h =>
    B.gd h v44 true (fun K => B.pv (V.idxS 1 v45 v46) fun v => K v h) fun v47 h =>
    B.gd h v44 true (fun K => B.ld h v47 fun v => K v h) fun v48 h =>
    B.gd h v44 true (fun K => K v6 h) fun v49 h =>
    B.gd h v44 true (fun K => K v1 h) fun v50 h =>
    B.gd h v44 true (fun K => B.pv (V.lenSl v50) fun v => K v h) fun v51 h =>
    B.gd h v44 true (fun K => B.pv (V.bin .sub v49 v51) fun v => K v h) fun v52 h =>
    B.gd h v44 true (fun K => B.call C f [(.int .i64 m), v52] h (B.keepS h [(v47, none)] K)) fun v53 h =>
    B.gd h v44 true (fun K => B.pv (V.bin .eql v48 v53) fun v => K v h) fun v54 h =>
    B.gd h v44 true (fun K => B.pv (V.un .not v54) fun v => K v h) fun v55 h =>
    B.gd h v38 false (fun K => B.pick v44 v55 (.bool false) fun v => K v h) fun v56 h =>
    B.pick v38 (.bool true) v56 fun v57 =>
    B.cond v57
    (Q (.bool false) h)
    (B.pv (V.bin .add v6 (.int .i64 1)) fun v22 =>
    Y1 [v22] h))
    (Q (.bool true) h)
@[simp] def keptS.l4 (C : CSem) (f : Nat) (m : Int) (Q : AVal → AHeap → Prop) (v1 v5 : AVal) : List AVal → AHeap → (List AVal → AHeap → Prop) → Prop
  | [v6], h, Y1 => keptS.k2 C f m Q Y1 v1 v5 v6 h
  | _, _, _ => False
def keptS (C : CSem) (f : Nat) (m : Int) (v0 v1 : AVal) (h : AHeap) (Q : AVal → AHeap → Prop) : Prop :=
  B.pv (V.lenSl v0) fun v8 =>
    B.pv (V.lenSl v1) fun v10 =>
    B.pv (V.bin .neq v8 v10) fun v11 =>
    B.cond v11
    (Q (.bool false) h)
    (B.pv (V.lenSl v1) fun v14 =>
    B.pv (V.bin .add v14 (.int .i64 12)) fun v15 =>
    B.pv (V.cutSl 1 v0 none (some v15)) fun v16 =>
    LoopR (keptS.l4 C f m Q v1 v16) [(.int .i64 0)] h)
theorem keptS_specL {f : Nat} {m : Int} {mk : Int → T} (s1 : ∀ (i : Int) (h : AHeap) (Q : AVal → AHeap → Prop), Q (F.c (mk i)) h → C f [.int .i64 m, .int .i64 i] h Q)
    {x y : AVal} {L M : List T} {R : List (List AVal)} {h : AHeap} {Q : AVal → AHeap → Prop} (hx : SlX h 1 x (L.map F.cs) (cmarks F mk 12)) (hy : SlX h 1 y (M.map F.cs) R) (hlen : L.length ≤ 4611686018427387000)
    (hq : Q (.bool (decide (L = M))) h) : keptS C f m x y h Q := by
  have hlx := hx.lenSl
  have hly := hy.lenSl
  rw [List.length_map] at hlx hly
  simp -dsimp [keptS, hlx, hly]
  refine B.cond_bool (fun hb => ?_) (fun hb => ?_) <;> simp -dsimp at hb ⊢
  · rw [decide_eq_false fun e => hb (by rw [e])] at hq
    exact hq
  · have e1 : IntKind.i64.wrap ((M.length : Int) + 12) = ((M.length + 12 : Nat) : Int) := by rw [wrap_i64 (by omega) (by omega)]; omega
    obtain ⟨z, e2, e3, e4⟩ := hx.slice Nat.one_pos (lo := 0) (hi := M.length + 12) (a := none) (b := some (.int .i64 ((M.length + 12 : Nat) : Int))) (.inl ⟨rfl, rfl⟩) (.inr ⟨_, rfl⟩) (by omega) (by simp; omega)
    have h1 : ((L.map F.cs ++ cmarks F mk 12).take (M.length + 12)).drop 0 = L.map F.cs ++ cmarks F mk 12 := by rw [List.drop_zero, List.take_of_length_le]; simp; omega
    rw [h1] at e3
    have hlz := e3.lenSl
    simp only [List.length_append, List.length_map, cmarks_len] at hlz
    simp only [hly, V.bin_add, e1, e2, B.pv_some]
    refine LoopR.intro (fun n vs hh => ∃ k, k + n = L.length + 12 ∧ vs = [.int .i64 k] ∧ hh = h ∧ L.take k = M.take k) (L.length + 12) ?_ ⟨0, by simp, by simp, rfl, by simp⟩
    rintro Y n vs _ ⟨k, hn, rfl, rfl, he⟩ hY
    simp -dsimp [hlz]
    refine B.cond_bool (fun hc => ?_) (fun hc => ?_) <;> simp -dsimp at hc ⊢
    · have hk : k < (L.map F.cs ++ cmarks F mk 12).length := by simp; omega
      by_cases hkL : k < L.length
      · have ew := get_lt hkL
        have eu := get_lt (L := M) (k := k) (by omega)
        obtain ⟨w, hw⟩ := ew
        obtain ⟨u, hu⟩ := eu
        have hk2 : k < (M.map F.cs).length := by simp; omega
        have hkM : k < M.length := by omega
        have hwz : (L.map F.cs ++ cmarks F mk 12)[k]? = some (F.cs w) := by rw [List.getElem?_append_left (by simpa using hkL)]; exact get_map hw
        by_cases hwu : w = u
        · subst hwu
          simp -dsimp [hly, hkM, e3.idxN hk, hy.idxN hk2, e3.cell hwz, hy.cell (get_map hu), F.eql, show ¬ M.length ≤ k by omega, inc64 (n := k) (by omega)]
          refine hY (L.length + 12 - (k + 1)) _ _ (by omega) ⟨k + 1, by omega, by simp, rfl, ?_⟩
          rw [take_succ hw, take_succ hu, he]
        · simp -dsimp [hly, hkM, e3.idxN hk, hy.idxN hk2, e3.cell hwz, hy.cell (get_map hu), F.eql, hwu]
          rw [decide_eq_false fun e => by subst e; rw [hw] at hu; cases hu; exact hwu rfl] at hq
          exact hq
      · have hkM : ¬ k < M.length := by omega
        have hmk : (L.map F.cs ++ cmarks F mk 12)[k]? = some (F.cs (mk ((k - M.length : Nat) : Int))) := by
          rw [List.getElem?_append_right (by simp; omega), List.length_map, show k - L.length = k - M.length by omega]
          exact cmarks_get F mk (by omega)
        have e5 : IntKind.i64.wrap ((k : Int) - M.length) = ((k - M.length : Nat) : Int) := by rw [wrap_i64 (by omega) (by omega)]; omega
        simp -dsimp [hly, hkM, e3.idxN hk, e3.cell hmk, show M.length ≤ k by omega, e5]
        refine s1 _ _ _ ⟨?_, ?_⟩
        · intro p hp
          rw [List.mem_singleton.1 hp]
          exact ⟨_, e3.cell hmk, e3.cell hmk⟩
        · simp [F.eql, inc64 (n := k) (by omega)]
          refine hY (L.length + 12 - (k + 1)) _ _ (by omega) ⟨k + 1, by omega, by simp, rfl, ?_⟩
          rw [List.take_of_length_le (by omega), List.take_of_length_le (by omega)] at he ⊢
          exact he
    · rw [List.take_of_length_le (by omega), List.take_of_length_le (by omega)] at he
      rw [decide_eq_true he] at hq
      exact hq
end
/-- A copy. -/
theorem copy_specL {es bytes : Nat} (hes : 0 < es) {h : AHeap} {x : AVal} {L R : List (List AVal)} {K : AVal → AHeap → Prop} (hx : SlX h es x L R) (hlen : L.length ≤ 4611686018427387000) (hmul : L.length * bytes ≤ 140737488355328) (hk : ∀ x' h', Owns h h' [.sl es x' L []] → K x' h') : B.appW h es bytes .nils x K := by
  refine ((Owns.start h).nils es).appW 0 rfl hx hes (by simp; omega) (by simp [maxLen]; omega) fun x' h' ho _ => hk x' h' (by simpa using ho)
/-! What one owns, parted: some of it as what was there at first. -/
def AHeap.without (h : AHeap) (l : List Ob) : AHeap := ⟨fun i => bif l.any (fun o => o.foot == some i) then none else h i, by
  obtain ⟨n, k⟩ := h.2
  refine ⟨n, fun i hi => ?_⟩
  show (bif l.any (fun o => o.foot == some i) then none else h i) = none
  cases l.any (fun o => o.foot == some i)
  · exact k i hi
  · rfl⟩
theorem without_in {h : AHeap} {l : List Ob} {i : Nat} {o : Ob} (hm : o ∈ l) (hf : o.foot = some i) : h.without l i = none := by
  have : (l.any fun o => o.foot == some i) = true := List.any_eq_true.2 ⟨o, hm, by simp [hf]⟩
  show (bif l.any (fun o => o.foot == some i) then none else h i) = none
  rw [this]; rfl
theorem without_out {h : AHeap} {l : List Ob} {i : Nat} (hm : ∀ o ∈ l, o.foot ≠ some i) : h.without l i = h i := by
  have : (l.any fun o => o.foot == some i) = false := by
    rw [← Bool.not_eq_true, List.any_eq_true]
    rintro ⟨o, h1, h2⟩
    exact hm o h1 (by simpa using h2)
  show (bif l.any (fun o => o.foot == some i) then none else h i) = _
  rw [this]; rfl
theorem without_le (h : AHeap) (l : List Ob) : (h.without l).le h := fun i b e => by
  by_cases hm : ∃ o ∈ l, o.foot = some i
  · obtain ⟨o, h1, h2⟩ := hm
    rw [without_in h1 h2] at e; cases e
  · rw [without_out fun o h1 h2 => hm ⟨o, h1, h2⟩] at e; exact e
theorem Owns.out {h0 h : AHeap} {l1 l2 : List Ob} (ho : Owns h0 h (l1 ++ l2)) : Owns h0 (h.without l2) l1 ∧ Owns (h.without l2) h l2 := by
  obtain ⟨a1, a2, a3⟩ := List.pairwise_append.1 ho.apart
  have h1 : h0.le (h.without l2) := fun i b e => by
    rw [without_out fun o hm hf => by rw [(ho.own o (List.mem_append_right _ hm) i hf).1] at e; cases e]
    exact ho.le i b e
  have keep : ∀ o ∈ l1, ∀ id, o.foot = some id → (h.without l2) id = h id := fun o hm id hf => without_out fun o2 hm2 hf2 => a3 o hm o2 hm2 id hf hf2
  refine ⟨⟨h1, fun o hm => (ho.is o (List.mem_append_left _ hm)).keep fun id b hf hb => by rw [keep o hm id hf]; exact hb, fun o hm id hf => ?_, a1⟩,
    ⟨without_le h l2, fun o hm => ho.is o (List.mem_append_right _ hm), fun o hm id hf => ⟨without_in hm hf, (ho.own o (List.mem_append_right _ hm) id hf).2⟩, a2⟩⟩
  obtain ⟨b1, b2⟩ := ho.own o (List.mem_append_left _ hm) id hf
  exact ⟨b1, fun b hb => b2 b (by rw [← keep o hm id hf]; exact hb)⟩
theorem Owns.perm {h0 h : AHeap} {l l' : List Ob} (ho : Owns h0 h l) (hp : l.Perm l') : Owns h0 h l' :=
  ⟨ho.le, fun o hm => ho.is o (hp.mem_iff.2 hm), fun o hm => ho.own o (hp.mem_iff.2 hm), (hp.pairwise_iff fun {a b} hab id hb ha => hab id ha hb).1 ho.apart⟩

/-! Kinds of elements. -/
end Go.Ab

/- What is told: the types that the program's packages share, as cells. No conditions. -/
set_option linter.unusedVariables false
namespace Go.Ab
structure Window where
  From : Int
  Until : Int
  deriving DecidableEq
@[simp] def Window.cs (w : Window) : List AVal := [.int .i64 w.From, .int .i64 w.Until]
@[simp] theorem Window.eta (w : Window) : Window.mk w.From w.Until = w := rfl
structure Lot where
  Id : Int
  Item : List UInt8
  From : Int
  Until : Int
  Qty : Int
  Arrived : Bool
  deriving DecidableEq
@[simp] def Lot.cs (l : Lot) : List AVal := [.int .i64 l.Id, .str l.Item, .int .i64 l.From, .int .i64 l.Until, .int .i64 l.Qty, .bool l.Arrived]
def lotF : Flat Lot where
  cs := Lot.cs
  es := 6
  sh := [.i .i64, .s, .i .i64, .i .i64, .i .i64, .b]
  len _ := rfl
  pos := by omega
  eq a b := by
    cases a; cases b
    simp
structure Use where
  Want : Int
  Lot : Int
  Qty : Int
  deriving DecidableEq
@[simp] def Use.cs (u : Use) : List AVal := [.int .i64 u.Want, .int .i64 u.Lot, .int .i64 u.Qty]
def useF : Flat Use where
  cs := Use.cs
  es := 3
  sh := [.i .i64, .i .i64, .i .i64]
  len _ := rfl
  pos := by omega
  eq a b := by
    cases a; cases b
    simp

structure Want where
  Item : List UInt8
  Day : Int
  Qty : Int
  deriving DecidableEq
@[simp] def Want.cs (u : Want) : List AVal := [.str u.Item, .int .i64 u.Day, .int .i64 u.Qty]
structure Part where
  Item : List UInt8
  Qty : Int
  deriving DecidableEq
@[simp] def Part.cs (u : Part) : List AVal := [.str u.Item, .int .i64 u.Qty]
theorem u8_eq (a b : UInt8) : decide ((a.toNat : Int) = b.toNat) = decide (a = b) := by
  rw [decide_eq_decide]
  constructor
  · intro h; exact UInt8.toNat_inj.1 (by omega)
  · intro h; rw [h]
structure Line where
  Id : Int
  Item : List UInt8
  Qty : Int
  Asked : Int
  Rank : Int
  State : UInt8
  Day : Int
  Code : List UInt8
  deriving DecidableEq
@[simp] def Line.cs (u : Line) : List AVal := [.int .i64 u.Id, .str u.Item, .int .i64 u.Qty, .int .i64 u.Asked, .int .i64 u.Rank, .int .u8 (u.State.toNat : Int), .int .i64 u.Day, .str u.Code]
def bS : Scal UInt8 where
  c b := .int .u8 b.toNat
  cell _ := rfl
  eql a b := by rw [V.bin_eql, u8_eq]
  neq a b := by rw [V.bin_neq, u8_eq]
abbrev bc : UInt8 → List AVal := bS.cs
theorem wrap_u8 (n : Int) : IntKind.u8.wrap n = n % 256 := by
  simp [IntKind.wrap, IntKind.bits, IntKind.signed]
def byt (m : Int) : UInt8 := UInt8.ofNat (m % 256).toNat
theorem byt_nat (m : Int) : ((byt m).toNat : Int) = m % 256 := by
  have h1 := Int.emod_nonneg m (show (256 : Int) ≠ 0 by omega)
  have h2 := Int.emod_lt_of_pos m (show (0 : Int) < 256 by omega)
  simp [byt]
  omega
theorem u8_byt (m : Int) : IntKind.u8.wrap m = ((byt m).toNat : Int) := by rw [wrap_u8, byt_nat]
theorem bin_shr {k j : IntKind} {a b : Int} (h0 : 0 ≤ b) (h1 : b < k.bits) : V.bin .shr (.int k a) (.int j b) = some (.int k (a.fdiv (2 ^ b.toNat))) := by
  simp only [V.bin, V.shift]
  rw [if_neg (by omega), Nat.min_eq_left (by omega)]

theorem wrap_u64 (n : Int) : IntKind.u64.wrap n = n % 18446744073709551616 := by
  simp [IntKind.wrap, IntKind.bits, IntKind.signed]
theorem bytesOf_bc : ∀ s : List UInt8, V.bytesOf? (s.map bc).flatten = some s
  | [] => rfl
  | a :: r => by
    have := bytesOf_bc r
    simp only [List.map_cons, List.flatten_cons, List.cons_append, List.nil_append] at this ⊢
    simp only [V.bytesOf?, this]
    simp [V.byteOf?, bS]
theorem bytesStr_bc {h : AHeap} {x : AVal} {s : List UInt8} {R : List (List AVal)} (hx : SlX h 1 x (s.map bc) R) (K : AVal → Prop) : (B.bytesStr h x K : Prop) = K (.str s) := by
  have h1 := hx.srcLen
  have h2 := hx.rdv
  rw [List.length_map] at h1 h2
  simp only [B.bytesStr, A.bytesStr, h1, h2, bytesOf_bc]
structure TellP where
  Err : Int
  Id : Int
  Day : Int
  Code : List UInt8
  State : UInt8
  Lots : List Lot
  Uses : List Use
  deriving DecidableEq
/-- An answer's value: its lists are x and y. -/
@[simp] def TellP.cs (t : TellP) (x y : AVal) : List AVal := [.int .i64 t.Err, .int .i64 t.Id, .int .i64 t.Day, .str t.Code, .int .u8 (t.State.toNat : Int), x, y]
structure TellAt (h : AHeap) (t : TellP) (x y : AVal) : Prop where
  lots : ∃ R, SlX h 6 x (t.Lots.map Lot.cs) R
  uses : ∃ R, SlX h 3 y (t.Uses.map Use.cs) R
theorem TellAt.mono {h H : AHeap} {t : TellP} {x y : AVal} (ht : TellAt h t x y) (hle : h.le H) : TellAt H t x y := by
  obtain ⟨⟨R, a⟩, ⟨S, b⟩⟩ := ht
  exact ⟨⟨R, a.mono hle⟩, ⟨S, b.mono hle⟩⟩
def inI64 (n : Int) : Prop := -9223372036854775808 ≤ n ∧ n ≤ 9223372036854775807
def Lot.ok (l : Lot) : Prop := inI64 l.Id ∧ inI64 l.Qty
def Use.ok (u : Use) : Prop := inI64 u.Want ∧ inI64 u.Lot ∧ inI64 u.Qty
def TellP.ok (t : TellP) : Prop := inI64 t.Id ∧ (∀ l ∈ t.Lots, l.ok) ∧ ∀ u ∈ t.Uses, u.ok

end Go.Ab

/- What is proved: arguments of the types that the packages share, read in the abstract memory. No conditions. -/
set_option linter.unusedVariables false
namespace Go.Ab
theorem u8_of {n : Int} (h1 : IntKind.u8.min ≤ n) (h2 : n ≤ IntKind.u8.max) : ((UInt8.ofNat n.toNat).toNat : Int) = n := by
  simp [IntKind.min, IntKind.max, IntKind.bits, IntKind.signed] at h1 h2
  simp
  omega
theorem dByte {H : AHeap} {p : List AVal} (h : AbsOk H (.i .u8) p) : ∃ b : UInt8, p = bc b := by
  obtain ⟨n, rfl, h1, h2⟩ := h
  exact ⟨UInt8.ofNat n.toNat, by show _ = [AVal.int .u8 _]; rw [u8_of h1 h2]⟩
end Go.Ab

/- What is proved: rules by which a function's reading is tied to a printed residual, piece within piece. No conditions. -/
set_option linter.unusedVariables false
namespace Go.Ab
/-! A code's parts. -/
def cA : Code → Code
  | .seq a _ => a
  | .cond _ a _ => a
  | .block _ b => b
  | .loop b => b
  | .scope b => b
  | _ => .skip
def cB : Code → Code
  | .seq _ b => b
  | .cond _ _ b => b
  | _ => .skip
def cI : Code → Nat
  | .block i _ => i
  | _ => 0
def isS : Code → Bool
  | .seq _ _ => true
  | _ => false
def isC (t : Nat) : Code → Bool
  | .cond (.tmp k) _ _ => Nat.beq k t
  | _ => false
def isK : Code → Bool
  | .block _ _ => true
  | _ => false
def isO : Code → Bool
  | .scope _ => true
  | _ => false
def isL : Code → Bool
  | .loop _ => true
  | _ => false
section
variable {P : Program} {C : CSem} {I : Bx}
theorem eS (hC : CMono C) {c : Code} {Q : Ex → Slots → AHeap → Prop} {s : Slots} {h : AHeap} (X : Slots → AHeap → Prop) (ha : bwp P C I (cA c) (Ex.then X Q) s h) (hb : ∀ s h, X s h → bwp P C I (cB c) Q s h) (hk : isS c = true := by kernel_rfl) : bwp P C I c Q s h := by
  cases c <;> first | exact seqB hC rfl hb ha | cases hk
theorem eC {c : Code} {Q : Ex → Slots → AHeap → Prop} {p q : Prop} {s : Slots} {h : AHeap} (t : Nat) (hr : A.cond (s t) p q) (hx : p → bwp P C I (cA c) Q s h) (hy : q → bwp P C I (cB c) Q s h) (hk : isC t c = true := by kernel_rfl) : bwp P C I c Q s h := by
  cases c with
  | cond o x y =>
    cases o with
    | tmp k =>
      have e : k = t := Nat.eq_of_beq_eq_true hk
      subst e
      exact condB rfl hx hy hr
    | _ => cases hk
  | _ => cases hk
theorem eK {c : Code} {Q : Ex → Slots → AHeap → Prop} {s : Slots} {h : AHeap} (hb : bwp P C I (cA c) (Ex.inBlock (cI c) Q) s h) (hk : isK c = true := by kernel_rfl) : bwp P C I c Q s h := by
  cases c <;> first | exact hb | cases hk
theorem eL (hC : CMono C) {c : Code} {Q : Ex → Slots → AHeap → Prop} {s : Slots} {h : AHeap} (keep live : List Nat) (G : List AVal → List AVal → AHeap → (List AVal → AHeap → Prop) → Prop)
    (hr : LoopR (G (keep.map s)) (live.map s) h)
    (hG : ∀ (Y : List AVal → AHeap → Prop) (s : Slots) (h : AHeap), G (keep.map s) (live.map s) h Y → bwp P C I (cA c) (Ex.then (fun s h => Y (live.map s) h) Q) s h)
    (hk : isL c = true := by kernel_rfl) (hw : (keep.all fun k => !memB (writesB P I (cA c)) k) = true := by kernel_rfl) : bwp P C I c Q s h := by
  cases c <;> first | exact loopB hC keep live rfl hw hG hr | cases hk
/-- A scope that is jumped in nowhere. -/
theorem eO {c : Code} {Q : Ex → Slots → AHeap → Prop} {s : Slots} {h : AHeap} (hb : bwp P C I (cA c) Q s h) (hk : isO c = true := by kernel_rfl) : bwp P C I c Q s h := by
  cases c <;> first | exact hb | cases hk
/-- A piece that is read at once. -/
theorem e1 {c : Code} {Q : Ex → Slots → AHeap → Prop} {s : Slots} {h : AHeap} {p : Prop} (hR : p) (e : bwp P C I c Q s h = p := by kernel_rfl) : bwp P C I c Q s h := e.mpr hR

/-- A whole function. -/
theorem eF (hm : P.follows .mixedOrders = true) {f : FuncId} {fn : Func} {c : Code} {I : Bx} {args : List AVal} {h : AHeap} {Q : AVal → AHeap → Prop}
    (hx : CMono (AC P) → bwp P (AC P) I c (retB P I fn.results.toList (dn Q)) (startS args) h) (hf : P.funcs[f]? = some fn := by kernel_rfl) (hb : fn.body = some c := by kernel_rfl) (h1 : (fn.name == "runtime.NumGoroutine") = false := by kernel_rfl)
    (hc : codeIn fn.ntmps c = true := by kernel_rfl) (hl : Nat.ble args.length fn.ntmps = true := by kernel_rfl) (hB : Nat.ble args.length I.B = true := by kernel_rfl) (hk : chkC P I c = true := by kernel_rfl) : AC P f args h Q :=
  AC_drop (AC_introB hm hf hb (callFunc_enter hf (by rw [hb]; rfl) h1) hc (Nat.le_of_ble_eq_true hl) (Nat.le_of_ble_eq_true hB) hk (hx (AC_cmono P)))
end
end Go.Ab

/- What is told: residuals: what each function does in the abstract memory, printed by a program of mine. Definitions alone. -/
set_option linter.unusedVariables false
namespace Go.Ab
/-- bytes.Equal -/
@[simp] def bytes_Equal.cps (C : CSem) (N : Nat → Nat) (v0 v1 : AVal) (h : AHeap) (Q : AVal → AHeap → Prop) : Prop :=
  B.bytesStr h v0 fun v6 =>
    B.bytesStr h v1 fun v8 =>
    B.pv (V.bin .eql v6 v8) fun v9 =>
    Q v9 h
def bytes_Equal.Imp (C : CSem) (N : Nat → Nat) : Prop := ∀ (v0 v1 : AVal) (h : AHeap) (Q : AVal → AHeap → Prop), bytes_Equal.cps C N v0 v1 h (dn Q) → C (N 273) [v0, v1] h Q
/-- bytes.Compare -/
@[simp] def bytes_Compare.cps (C : CSem) (N : Nat → Nat) (v0 v1 : AVal) (h : AHeap) (Q : AVal → AHeap → Prop) : Prop :=
  B.call C (N 303) [v0, v1] h fun v7 h =>
    Q v7 h
def bytes_Compare.Imp (C : CSem) (N : Nat → Nat) : Prop := ∀ (v0 v1 : AVal) (h : AHeap) (Q : AVal → AHeap → Prop), bytes_Compare.cps C N v0 v1 h (dn Q) → C (N 274) [v0, v1] h Q
end Go.Ab

/- What is told: residuals: what each function does in the abstract memory, printed by a program of mine. Definitions alone. -/
set_option linter.unusedVariables false
namespace Go.Ab
@[simp] def delta_Turns.k1 (C : CSem) (N : Nat → Nat) (Q : AVal → AHeap → Prop) (Y1 : List AVal → AHeap → Prop) (v0 v1 v5 v6 : AVal) (h : AHeap) : Prop :=
  B.pv (V.cutSl 2 v1 (some (.int .i64 1)) none) fun v100 =>
    B.pv (V.bin .eql v6 (.int .i64 0)) fun v102 =>
    B.cond v102
    (B.pv (V.cutSl 2 v0 (some (.int .i64 1)) none) fun v104 =>
    Y1 [v104, v100, v5] h)
    (Y1 [v0, v100, v5] h)
@[simp] def delta_Turns.k2 (C : CSem) (N : Nat → Nat) (Q : AVal → AHeap → Prop) (Y1 : List AVal → AHeap → Prop) (v0 v1 v5 v6 : AVal) (h : AHeap) : Prop :=
  B.pv (V.bin .lss v6 (.int .i64 0)) fun v42 =>
    B.cond v42
    (B.pv (V.idxS 2 v0 (.int .i64 0)) fun v45 =>
    B.pv (V.fieldAddr 0 v45) fun v46 =>
    B.ld h v46 fun v47 =>
    B.pv (V.idxS 2 v0 (.int .i64 0)) fun v49 =>
    B.pv (V.fieldAddr 1 v49) fun v50 =>
    B.ld h v50 fun v51 =>
    B.call C (N 272) [v47, v51, .nils] h fun v52 h =>
    B.newO h (fillL [(0, some 3, v52)] (repL 1 [.nils, .nils, .nils])) fun i53 h =>
    B.appW h 3 72 v5 (.sl i53 0 0 1 3 1) fun v54 h =>
    B.pv (V.cutSl 2 v0 (some (.int .i64 1)) none) fun v56 =>
    Y1 [v56, v1, v54] h)
    (B.pv (V.bin .gtr v6 (.int .i64 0)) fun v59 =>
    B.cond v59
    (B.pv (V.idxS 2 v1 (.int .i64 0)) fun v62 =>
    B.pv (V.fieldAddr 0 v62) fun v63 =>
    B.ld h v63 fun v64 =>
    B.pv (V.idxS 2 v1 (.int .i64 0)) fun v66 =>
    B.pv (V.fieldAddr 1 v66) fun v67 =>
    B.ld h v67 fun v68 =>
    B.call C (N 272) [v64, .nils, v68] h fun v69 h =>
    B.newO h (fillL [(0, some 3, v69)] (repL 1 [.nils, .nils, .nils])) fun i70 h =>
    B.appW h 3 72 v5 (.sl i70 0 0 1 3 1) fun v71 h =>
    delta_Turns.k1 C N Q Y1 v0 v1 v71 v6 h)
    (B.pv (V.idxS 2 v0 (.int .i64 0)) fun v74 =>
    B.pv (V.fieldAddr 1 v74) fun v75 =>
    B.ld h v75 fun v76 =>
    B.pv (V.idxS 2 v1 (.int .i64 0)) fun v78 =>
    B.pv (V.fieldAddr 1 v78) fun v79 =>
    B.ld h v79 fun v80 =>
    B.call C (N 273) [v76, v80] h fun v81 h =>
    B.pv (V.un .not v81) fun v82 =>
    B.cond v82
    (B.pv (V.idxS 2 v0 (.int .i64 0)) fun v85 =>
    B.pv (V.fieldAddr 0 v85) fun v86 =>
    B.ld h v86 fun v87 =>
    B.pv (V.idxS 2 v0 (.int .i64 0)) fun v89 =>
    B.pv (V.fieldAddr 1 v89) fun v90 =>
    B.ld h v90 fun v91 =>
    B.pv (V.idxS 2 v1 (.int .i64 0)) fun v93 =>
    B.pv (V.fieldAddr 1 v93) fun v94 =>
    B.ld h v94 fun v95 =>
    B.call C (N 272) [v87, v91, v95] h fun v96 h =>
    B.newO h (fillL [(0, some 3, v96)] (repL 1 [.nils, .nils, .nils])) fun i97 h =>
    B.appW h 3 72 v5 (.sl i97 0 0 1 3 1) fun v98 h =>
    delta_Turns.k1 C N Q Y1 v0 v1 v98 v6 h)
    (delta_Turns.k1 C N Q Y1 v0 v1 v5 v6 h)))
@[simp] def delta_Turns.k3 (C : CSem) (N : Nat → Nat) (Q : AVal → AHeap → Prop) (Y1 : List AVal → AHeap → Prop) (v0 v1 v5 : AVal) (h : AHeap) : Prop :=
  B.pv (V.lenSl v0) fun v34 =>
    B.pv (V.bin .eql v34 (.int .i64 0)) fun v35 =>
    B.cond v35
    (delta_Turns.k2 C N Q Y1 v0 v1 v5 (.int .i64 1) h)
    (B.pv (V.lenSl v1) fun v38 =>
    B.pv (V.bin .eql v38 (.int .i64 0)) fun v39 =>
    B.cond v39
    (delta_Turns.k2 C N Q Y1 v0 v1 v5 (.int .i64 (-1)) h)
    (B.pv (V.idxS 2 v0 (.int .i64 0)) fun v24 =>
    B.pv (V.fieldAddr 0 v24) fun v25 =>
    B.ld h v25 fun v26 =>
    B.pv (V.idxS 2 v1 (.int .i64 0)) fun v28 =>
    B.pv (V.fieldAddr 0 v28) fun v29 =>
    B.ld h v29 fun v30 =>
    B.call C (N 274) [v26, v30] h fun v31 h =>
    delta_Turns.k2 C N Q Y1 v0 v1 v5 v31 h))
@[simp] def delta_Turns.k4 (C : CSem) (N : Nat → Nat) (Q : AVal → AHeap → Prop) (Y1 : List AVal → AHeap → Prop) (v0 v1 v5 : AVal) (h : AHeap) : Prop :=
  B.pv (V.lenSl v0) fun v16 =>
    B.pv (V.bin .gtr v16 (.int .i64 0)) fun v17 =>
    B.gd h v17 false (fun K => K v1 h) fun v19 h =>
    B.gd h v17 false (fun K => B.pv (V.lenSl v19) fun v => K v h) fun v20 h =>
    B.gd h v17 false (fun K => B.pv (V.bin .gtr v20 (.int .i64 0)) fun v => K v h) fun v21 h =>
    B.pick v17 (.bool true) v21 fun v22 =>
    B.cond v22
    (delta_Turns.k3 C N Q Y1 v0 v1 v5 h)
    (Q v5 h)
@[simp] def delta_Turns.l5 (C : CSem) (N : Nat → Nat) (Q : AVal → AHeap → Prop) : List AVal → AHeap → (List AVal → AHeap → Prop) → Prop
  | [v0, v1, v5], h, Y1 => delta_Turns.k4 C N Q Y1 v0 v1 v5 h
  | _, _, _ => False
@[simp] def delta_Turns.k6 (C : CSem) (N : Nat → Nat) (Q : AVal → AHeap → Prop) (v0 v1 : AVal) (h : AHeap) : Prop :=
  B.call C (N 275) [v0] h fun v8 h =>
    B.pv (V.un .not v8) fun v9 =>
    B.gd h v9 false (fun K => K v1 h) fun v11 h =>
    B.gd h v9 false (fun K => B.call C (N 275) [v11] h K) fun v12 h =>
    B.gd h v9 false (fun K => B.pv (V.un .not v12) fun v => K v h) fun v13 h =>
    B.pick v9 (.bool true) v13 fun v14 =>
    B.cond v14
    (Q .nils h)
    (LoopR (delta_Turns.l5 C N Q) [v0, v1, .nils] h)
/-- storeman/delta.Turns -/
@[simp] def delta_Turns.cps (C : CSem) (N : Nat → Nat) (v0 v1 : AVal) (h : AHeap) (Q : AVal → AHeap → Prop) : Prop :=
  delta_Turns.k6 C N Q v0 v1 h
def delta_Turns.Imp (C : CSem) (N : Nat → Nat) : Prop := ∀ (v0 v1 : AVal) (h : AHeap) (Q : AVal → AHeap → Prop), delta_Turns.cps C N v0 v1 h (dn Q) → C (N 255) [v0, v1] h Q
@[simp] def delta_Apply.k1 (C : CSem) (N : Nat → Nat) (Q : AVal → AHeap → Prop) (Y1 : List AVal → AHeap → Prop) (v12 v64 : AVal) (h : AHeap) : Prop :=
  B.nextMap h v64 fun v65 h =>
    B.pv (V.ext 0 v65) fun v66 =>
    B.cond v66
    (B.pv (A.entryAt h v64) fun v67 =>
    B.pv (V.ext 0 v67) fun v68 =>
    B.pv (V.ext 1 v67) fun v69 =>
    B.strBytes h v68 fun v72 h =>
    B.call C (N 284) [v69] h fun v74 h =>
    B.pv (A.bld [(0, none, v72), (1, none, v74)] [.nils, .nils]) fun v75 =>
    B.newO h (fillL [(0, some 2, v75)] (repL 1 [.nils, .nils])) fun i76 h =>
    B.appW h 2 48 v12 (.sl i76 0 0 1 2 1) fun v77 h =>
    Y1 [v77] h)
    (B.call C (N 283) [v12, (.fn (N 282) [] [])] h fun v79 h =>
    Q (.tup [v12, (.bool true)]) h)
@[simp] def delta_Apply.l2 (C : CSem) (N : Nat → Nat) (Q : AVal → AHeap → Prop) (v64 : AVal) : List AVal → AHeap → (List AVal → AHeap → Prop) → Prop
  | [v12], h, Y1 => delta_Apply.k1 C N Q Y1 v12 v64 h
  | _, _, _ => False
@[simp] def delta_Apply.k3 (C : CSem) (N : Nat → Nat) (Q : AVal → AHeap → Prop) (Y2 : List AVal → AHeap → Prop) (v6 v32 v33 v34 : AVal) (h : AHeap) : Prop :=
  B.pv (V.bin .lss v34 v33) fun v35 =>
    B.cond v35
    (B.pv (V.idxS 3 v32 v34) fun v36 =>
    B.ldn h v36 3 fun v37 =>
    B.pv (V.setN 0 3 v37 (.agg [.nils, .nils, .nils])) fun c10 =>
    B.al c10 (B.pv (V.field1 0 c10) fun v39 =>
    B.bytesStr h v39 fun v40 =>
    B.pv (V.bin .eql v40 (.str [])) fun v42 =>
    B.gd h v42 false (fun K => K v6 h) fun v44 h =>
    B.gd h v42 false (fun K => K v40 h) fun v45 h =>
    B.gd h v42 false (fun K => B.pv (A.lkp h (some .s) (some (.nils)) false v44 v45) fun v => K v h) fun v46 h =>
    B.al c10 (B.gd h v42 false (fun K => K .undef h) fun _ h =>
    B.gd h v42 false (fun K => B.pv (V.field1 1 c10) fun v => K v h) fun v48 h =>
    B.gd h v42 false (fun K => B.call C (N 273) [v46, v48] h K) fun v49 h =>
    B.gd h v42 false (fun K => B.pv (V.un .not v49) fun v => K v h) fun v50 h =>
    B.pick v42 (.bool true) v50 fun v51 =>
    B.cond v51
    (Q (.tup [.nils, (.bool false)]) h)
    (B.al c10 (B.pv (V.field1 2 c10) fun v55 =>
    B.mset h .s v6 v40 v55 fun h =>
    B.al c10 (B.pv (V.field1 2 c10) fun v57 =>
    B.pv (V.lenSl v57) fun v58 =>
    B.pv (V.bin .eql v58 (.int .i64 0)) fun v59 =>
    B.cond v59
    (B.mdel h .s v6 v40 fun _ h =>
    B.pv (V.bin .add v34 (.int .i64 1)) fun v62 =>
    Y2 [v62] h)
    (B.pv (V.bin .add v34 (.int .i64 1)) fun v62 =>
    Y2 [v62] h)))))))
    (B.rangeMap h v6 fun v64 h =>
    LoopR (delta_Apply.l2 C N Q v64) [.nils] h)
@[simp] def delta_Apply.l4 (C : CSem) (N : Nat → Nat) (Q : AVal → AHeap → Prop) (v6 v32 v33 : AVal) : List AVal → AHeap → (List AVal → AHeap → Prop) → Prop
  | [v34], h, Y2 => delta_Apply.k3 C N Q Y2 v6 v32 v33 v34 h
  | _, _, _ => False
@[simp] def delta_Apply.k5 (C : CSem) (N : Nat → Nat) (Q : AVal → AHeap → Prop) (Y3 : List AVal → AHeap → Prop) (v1 v6 v19 v20 v21 : AVal) (h : AHeap) : Prop :=
  B.pv (V.bin .lss v21 v20) fun v22 =>
    B.cond v22
    (B.pv (V.idxS 2 v19 v21) fun v23 =>
    B.ldn h v23 2 fun v24 =>
    B.pv (V.setN 0 2 v24 (.agg [.nils, .nils])) fun c8 =>
    B.al c8 (B.pv (V.field1 0 c8) fun v27 =>
    B.bytesStr h v27 fun v28 =>
    B.al c8 (B.pv (V.field1 1 c8) fun v30 =>
    B.mset h .s v6 v28 v30 fun h =>
    B.pv (V.bin .add v21 (.int .i64 1)) fun v31 =>
    Y3 [v31] h)))
    (B.pv (V.lenSl v1) fun v33 =>
    LoopR (delta_Apply.l4 C N Q v6 v1 v33) [(.int .i64 0)] h)
@[simp] def delta_Apply.l6 (C : CSem) (N : Nat → Nat) (Q : AVal → AHeap → Prop) (v1 v6 v19 v20 : AVal) : List AVal → AHeap → (List AVal → AHeap → Prop) → Prop
  | [v21], h, Y3 => delta_Apply.k5 C N Q Y3 v1 v6 v19 v20 v21 h
  | _, _, _ => False
@[simp] def delta_Apply.k7 (C : CSem) (N : Nat → Nat) (Q : AVal → AHeap → Prop) (v0 v1 : AVal) (h : AHeap) : Prop :=
  B.call C (N 275) [v0] h fun v16 h =>
    B.pv (V.un .not v16) fun v17 =>
    B.cond v17
    (Q (.tup [.nils, (.bool false)]) h)
    (B.newMap h fun v18 h =>
    B.pv (V.lenSl v0) fun v20 =>
    LoopR (delta_Apply.l6 C N Q v1 v18 v0 v20) [(.int .i64 0)] h)
/-- storeman/delta.Apply -/
@[simp] def delta_Apply.cps (C : CSem) (N : Nat → Nat) (v0 v1 : AVal) (h : AHeap) (Q : AVal → AHeap → Prop) : Prop :=
  delta_Apply.k7 C N Q v0 v1 h
def delta_Apply.Imp (C : CSem) (N : Nat → Nat) : Prop := ∀ (v0 v1 : AVal) (h : AHeap) (Q : AVal → AHeap → Prop), delta_Apply.cps C N v0 v1 h (dn Q) → C (N 261) [v0, v1] h Q
@[simp] def delta_Back.k1 (C : CSem) (N : Nat → Nat) (Q : AVal → AHeap → Prop) (Y1 : List AVal → AHeap → Prop) (v0 v3 v4 : AVal) (h : AHeap) : Prop :=
  B.pv (V.bin .geq v4 (.int .i64 0)) fun v9 =>
    B.cond v9
    (B.pv (V.idxS 3 v0 v4) fun v15 =>
    B.pv (V.fieldAddr 0 v15) fun v16 =>
    B.ld h v16 fun v17 =>
    B.pv (V.idxS 3 v0 v4) fun v20 =>
    B.pv (V.fieldAddr 2 v20) fun v21 =>
    B.ld h v21 fun v22 =>
    B.pv (V.idxS 3 v0 v4) fun v25 =>
    B.pv (V.fieldAddr 1 v25) fun v26 =>
    B.ld h v26 fun v27 =>
    B.call C (N 272) [v17, v22, v27] h fun v28 h =>
    B.newO h (fillL [(0, some 3, v28)] (repL 1 [.nils, .nils, .nils])) fun i29 h =>
    B.appW h 3 72 v3 (.sl i29 0 0 1 3 1) fun v30 h =>
    B.pv (V.bin .sub v4 (.int .i64 1)) fun v11 =>
    Y1 [v30, v11] h)
    (Q v3 h)
@[simp] def delta_Back.l2 (C : CSem) (N : Nat → Nat) (Q : AVal → AHeap → Prop) (v0 : AVal) : List AVal → AHeap → (List AVal → AHeap → Prop) → Prop
  | [v3, v4], h, Y1 => delta_Back.k1 C N Q Y1 v0 v3 v4 h
  | _, _, _ => False
/-- storeman/delta.Back -/
@[simp] def delta_Back.cps (C : CSem) (N : Nat → Nat) (v0 : AVal) (h : AHeap) (Q : AVal → AHeap → Prop) : Prop :=
  B.pv (V.lenSl v0) fun v6 =>
    B.pv (V.bin .sub v6 (.int .i64 1)) fun v7 =>
    LoopR (delta_Back.l2 C N Q v0) [.nils, v7] h
def delta_Back.Imp (C : CSem) (N : Nat → Nat) : Prop := ∀ (v0 : AVal) (h : AHeap) (Q : AVal → AHeap → Prop), delta_Back.cps C N v0 h (dn Q) → C (N 264) [v0] h Q
@[simp] def delta_turn.k1 (C : CSem) (N : Nat → Nat) (Q : AVal → AHeap → Prop) (v0 v1 v2 : AVal) (h : AHeap) : Prop :=
  B.call C (N 284) [v0] h fun v8 h =>
    B.call C (N 284) [v1] h fun v10 h =>
    B.call C (N 284) [v2] h fun v12 h =>
    B.pv (A.bld [(0, none, v8), (1, none, v10), (2, none, v12)] [.nils, .nils, .nils]) fun v13 =>
    B.pv (V.setN 0 3 v13 (.agg [.nils, .nils, .nils])) fun c6 =>
    B.pv (oneOf (joinV (V.fieldN 0 3 c6) (some []))) fun v => Q v h
/-- storeman/delta.turn -/
@[simp] def delta_turn.cps (C : CSem) (N : Nat → Nat) (v0 v1 v2 : AVal) (h : AHeap) (Q : AVal → AHeap → Prop) : Prop :=
  delta_turn.k1 C N Q v0 v1 v2 h
def delta_turn.Imp (C : CSem) (N : Nat → Nat) : Prop := ∀ (v0 v1 v2 : AVal) (h : AHeap) (Q : AVal → AHeap → Prop), delta_turn.cps C N v0 v1 v2 h (dn Q) → C (N 272) [v0, v1, v2] h Q
@[simp] def delta_right.k1 (C : CSem) (N : Nat → Nat) (Q : AVal → AHeap → Prop) (Y1 : List AVal → AHeap → Prop) (v0 v5 v6 v7 : AVal) (h : AHeap) : Prop :=
  B.pv (V.bin .lss v7 v6) fun v8 =>
    B.cond v8
    (B.pv (V.idxS 2 v5 v7) fun v10 =>
    B.ldn h v10 2 fun v11 =>
    B.pv (V.setN 0 2 v11 (.agg [.nils, .nils])) fun c4 =>
    B.al c4 (B.pv (V.field1 0 c4) fun v13 =>
    B.pv (V.lenSl v13) fun v14 =>
    B.pv (V.bin .eql v14 (.int .i64 0)) fun v15 =>
    B.al c4 (B.gd h v15 false (fun K => K .undef h) fun _ h =>
    B.gd h v15 false (fun K => B.pv (V.field1 1 c4) fun v => K v h) fun v18 h =>
    B.gd h v15 false (fun K => B.pv (V.lenSl v18) fun v => K v h) fun v19 h =>
    B.gd h v15 false (fun K => B.pv (V.bin .eql v19 (.int .i64 0)) fun v => K v h) fun v20 h =>
    B.pick v15 (.bool true) v20 fun v21 =>
    B.gd h v21 false (fun K => K v7 h) fun v23 h =>
    B.gd h v21 false (fun K => B.pv (V.bin .gtr v23 (.int .i64 0)) fun v => K v h) fun v24 h =>
    B.gd h v21 false (fun K => K v24 h) fun v25 h =>
    B.gd h v25 true (fun K => K v0 h) fun v26 h =>
    B.gd h v25 true (fun K => K v7 h) fun v27 h =>
    B.gd h v25 true (fun K => B.pv (V.bin .sub v27 (.int .i64 1)) fun v => K v h) fun v28 h =>
    B.gd h v25 true (fun K => B.pv (V.idxS 2 v26 v28) fun v => K v h) fun v29 h =>
    B.gd h v25 true (fun K => B.pv (V.fieldAddr 0 v29) fun v => K v h) fun v30 h =>
    B.gd h v25 true (fun K => B.ld h v30 fun v => K v h) fun v31 h =>
    B.al c4 (B.gd h v25 true (fun K => K .undef h) fun _ h =>
    B.gd h v25 true (fun K => B.pv (V.field1 0 c4) fun v => K v h) fun v33 h =>
    B.gd h v25 true (fun K => B.call C (N 274) [v31, v33] h K) fun v34 h =>
    B.gd h v25 true (fun K => B.pv (V.bin .geq v34 (.int .i64 0)) fun v => K v h) fun v35 h =>
    B.gd h v21 false (fun K => B.pick v25 v35 (.bool false) fun v => K v h) fun v36 h =>
    B.pick v21 (.bool true) v36 fun v37 =>
    B.cond v37
    (Q (.bool false) h)
    (B.pv (V.bin .add v7 (.int .i64 1)) fun v38 =>
    Y1 [v38] h)))))
    (Q (.bool true) h)
@[simp] def delta_right.l2 (C : CSem) (N : Nat → Nat) (Q : AVal → AHeap → Prop) (v0 v5 v6 : AVal) : List AVal → AHeap → (List AVal → AHeap → Prop) → Prop
  | [v7], h, Y1 => delta_right.k1 C N Q Y1 v0 v5 v6 v7 h
  | _, _, _ => False
/-- storeman/delta.right -/
@[simp] def delta_right.cps (C : CSem) (N : Nat → Nat) (v0 : AVal) (h : AHeap) (Q : AVal → AHeap → Prop) : Prop :=
  B.pv (V.lenSl v0) fun v6 =>
    LoopR (delta_right.l2 C N Q v0 v0 v6) [(.int .i64 0)] h
def delta_right.Imp (C : CSem) (N : Nat → Nat) : Prop := ∀ (v0 : AVal) (h : AHeap) (Q : AVal → AHeap → Prop), delta_right.cps C N v0 h (dn Q) → C (N 275) [v0] h Q
@[simp] def delta_Apply_1.k1 (C : CSem) (N : Nat → Nat) (Q : AVal → AHeap → Prop) (v0 v1 : AVal) (h : AHeap) : Prop :=
  B.pv (A.boxN 2 v0) fun c2 =>
    B.pv (A.boxN 2 v1) fun c3 =>
    B.al c2 (B.pv (V.field1 0 c2) fun v6 =>
    B.al c3 (B.pv (V.field1 0 c3) fun v8 =>
    B.call C (N 274) [v6, v8] h fun v9 h =>
    Q v9 h))
/-- storeman/delta.Apply$1 -/
@[simp] def delta_Apply_1.cps (C : CSem) (N : Nat → Nat) (v0 v1 : AVal) (h : AHeap) (Q : AVal → AHeap → Prop) : Prop :=
  delta_Apply_1.k1 C N Q v0 v1 h
def delta_Apply_1.Imp (C : CSem) (N : Nat → Nat) : Prop := ∀ (v0 v1 : AVal) (h : AHeap) (Q : AVal → AHeap → Prop), delta_Apply_1.cps C N v0 v1 h (dn Q) → C (N 282) [v0, v1] h Q
end Go.Ab

/- What is told: residuals: what each function does in the abstract memory, printed by a program of mine. Definitions alone. -/
set_option linter.unusedVariables false
namespace Go.Ab
end Go.Ab

/- What is told: residuals: what each function does in the abstract memory, printed by a program of mine. Definitions alone. -/
set_option linter.unusedVariables false
namespace Go.Ab
end Go.Ab

/- What is proved: contracts of codes' functions, the program's and the document's. No conditions. -/
set_option linter.unusedVariables false
set_option linter.unusedSimpArgs false
namespace Go.Ab
variable {C : CSem} {N : Nat → Nat}

/-! Bytes. -/
/-! Codes. -/
def codeCh (i : Nat) (b : UInt8) : Bool := (decide (65 ≤ b.toNat) && decide (b.toNat ≤ 90)) || (decide (0 < i) && ((decide (48 ≤ b.toNat) && decide (b.toNat ≤ 57)) || decide (b.toNat = 45)))
def codeTo (s : List UInt8) : Nat → Bool
  | 0 => true
  | n + 1 => codeTo s n && codeCh n (s.getD n 0)
def codeRight (s : List UInt8) : Bool := !s.isEmpty && decide (s.length ≤ 12) && codeTo s s.length
/-! Bytes put together. -/
theorem bc_flat (s : List UInt8) : (s.map bc).flatten = s.map fun b => AVal.int .u8 b.toNat := by
  induction s with
  | nil => rfl
  | cons a r ih => simp only [List.map_cons, List.flatten_cons, ih]; rfl
end Go.Ab

/- What is proved: the model's own comparison of bytes, told in the abstract memory. No conditions. -/
set_option linter.unusedVariables false
set_option linter.unusedSimpArgs false
namespace Go.Ab
variable {P : Program} {w0 : World} {ρ : Locs} {h H : AHeap} {w : World}
theorem addr_add_add (a : Addr) (i j : Nat) (ha : a.spot = none) : (a.add i).add j = a.add (i + j) := by
  rw [addr_add_none _ _ ha, addr_add_none _ _ rfl, addr_add_none _ _ ha, Nat.add_assoc]
theorem loadBytes_run : ∀ (bs : List UInt8) (a : Addr) (acc : ByteArray), a.spot = none → (∀ j (hj : j < bs.length), w.cell? (a.add j) = some (.int .u8 (bs[j].toNat : Int))) → (Extern.Bytes.loadBytes a bs.length acc).run P w = .ok (bs.foldl (fun x b => x.push b) acc) w
  | [], a, acc, _, _ => rfl
  | b :: bs, a, acc, ha, h => by
    have h0 := h 0 (by simp)
    have e0 : a.add 0 = a := by rw [addr_add_none _ _ ha]; cases a; simp at ha; subst ha; rfl
    rw [e0] at h0
    have ih := loadBytes_run bs (a.add 1) (acc.push b) (by rw [addr_add_none _ _ ha]) fun j hj => by
      rw [addr_add_add _ _ _ ha]
      have := h (j + 1) (by simpa using hj)
      rw [show 1 + j = j + 1 by omega]
      simpa using this
    have hl : (load a).run P w = .ok (.int .u8 (b.toNat : Int)) w := by simp [h0]
    have hb : ((b.toNat : Int).toNat).toUInt8 = b := by simp
    simp only [List.length_cons, Extern.Bytes.loadBytes, Sem.run_bind, List.foldl_cons, hl, Result.andThen_ok]
    rw [hb]
    exact ih
theorem foldl_pushB : ∀ (bs : List UInt8) (acc : ByteArray), (bs.foldl (fun x b => x.push b) acc).data.toList = acc.data.toList ++ bs
  | [], acc => by simp
  | b :: bs, acc => by rw [List.foldl_cons, foldl_pushB bs]; simp [ByteArray.push]
theorem VRels.at : ∀ {as1 : List AVal} {l : List Value}, VRels ρ as1 l → ∀ {j : Nat} {a : AVal}, as1[j]? = some a → ∃ u, l[j]? = some u ∧ VRel ρ a u
  | [], _, _, j, a, h => by simp at h
  | x :: as1, _, ⟨u, us, rfl, h1, h2⟩, 0, a, h => by simp at h; subst h; exact ⟨u, rfl, h1⟩
  | x :: as1, _, ⟨u, us, rfl, h1, h2⟩, j + 1, a, h => by
    obtain ⟨v, e1, e2⟩ := VRels.at h2 (j := j) (by simpa using h)
    exact ⟨v, by simpa using e1, e2⟩
theorem bcs_flat : ∀ bs : List UInt8, (bs.map bc).flatten = bs.map fun b => AVal.int .u8 (b.toNat : Int)
  | [] => rfl
  | b :: bs => by rw [List.map_cons, List.flatten_cons, bcs_flat bs]; rfl
theorem bytesOf_run (hR : R w0 ρ H w) (hle : h.le H) {x : AVal} {bs : List UInt8} {S : List (List AVal)} (hs : SlX h 1 x (bs.map bc) S) {v : Value} (hv : VRel ρ x v) :
    ∃ b : ByteArray, (Extern.Bytes.bytesOf v).run P w = .ok b w ∧ b.data.toList = bs := by
  have hrd := hs.rdv
  rw [List.length_map] at hrd
  obtain ⟨l, h1, h2, h3, h4, h5⟩ := rdv_sound (P := P) hR hle hrd hv
  rcases hs.at_ with ⟨e1, e2, rfl | rfl⟩ | ⟨id, g, off, cp, b, hi, rfl, k1, k2, k3, k4, k5, k6⟩
  · have : bs = [] := by simpa using e1
    subst this
    cases hv
    exact ⟨.empty, rfl, rfl⟩
  · have : bs = [] := by simpa using e1
    subst this
    obtain ⟨a, rfl⟩ := hv
    exact ⟨.empty, rfl, rfl⟩
  · obtain ⟨a, c, rfl⟩ := rel_sl hv
    rw [List.length_map]
    rcases h5 with h5 | ⟨ad, m, c', e, h5⟩
    · have : bs = [] := List.eq_nil_of_length_eq_zero h5
      subst this
      exact ⟨.empty, rfl, rfl⟩
    · cases e
      by_cases hb0 : bs = []
      · subst hb0; exact ⟨.empty, rfl, rfl⟩
      have hsp : a.spot = none := by
        obtain ⟨L, _, _, hh⟩ := hv
        rcases hh with ⟨cap, e, _⟩ | ⟨e, _, _, _⟩
        · cases e; rfl
        · rw [List.length_map] at e
          exact absurd (List.eq_nil_of_length_eq_zero e) hb0
      refine ⟨_, loadBytes_run bs a .empty hsp fun j hj => ?_, by rw [foldl_pushB]; rfl⟩
      obtain ⟨u, e1, e2⟩ := h2.at (j := j) (a := .int .u8 (bs[j].toNat : Int)) (by rw [bcs_flat, List.getElem?_map, List.getElem?_eq_getElem hj]; rfl)
      rw [h5 j u e1, show u = _ from e2]
/-- Bytes are compared. -/
theorem AC_bytealgCompare {f : FuncId} {fn : Func} (hf : P.funcs[f]? = some fn) (hname : (fn.name == "runtime.NumGoroutine") = false) (hb : fn.body.isNone = true) (hn : Extern.findNext fn = none) (he : Extern.find fn = some Extern.BytealgCompare.compare)
    {x y : AVal} {a b : List UInt8} {S T : List (List AVal)} {h : AHeap} {Q : AVal → AHeap → Prop} (hx : SlX h 1 x (a.map bc) S) (hy : SlX h 1 y (b.map bc) T) (hq : Q (.int .i64 (Lib.compareBytes a b)) h) : AC P f [x, y] h Q := by
  rintro w0 ρ H w va hle hR ⟨u, us, rfl, hu, v, vs, rfl, hv, rfl⟩
  obtain ⟨c, c1, c2⟩ := bytesOf_run (P := P) hR hle hx hu
  obtain ⟨d, d1, d2⟩ := bytesOf_run (P := P) hR hle hy hv
  refine .inr ⟨.int .i64 (Lib.compareBytes a b), w, ?_, _, rfl, ⟨⟨.int .i64 (Lib.compareBytes a b), ρ, h, H, Locs.le_refl ρ, rfl, hq, hle, Fr.refl h H, hR⟩⟩⟩
  rw [run_callFunc_extern hf hname hb hn he]
  have : (Extern.BytealgCompare.compare [u, v].toArray).run P w = .ok (.int .i64 (Lib.compareBytes a b)) w := by
    change Sem.run P (do pure (goInt (Extern.BytealgCompare.cmp (← Extern.Bytes.bytesOf u) (← Extern.Bytes.bytesOf v)))) w = _
    simp only [Sem.run_bind, c1, d1, Result.andThen_ok, Sem.run_pure]
    rw [Lib.cmp_eq, c2, d2]
    rfl
  rw [this]; rfl
end Go.Ab

/- What is told: residuals: what each function does in the abstract memory, printed by a program of mine. Definitions alone. -/
set_option linter.unusedVariables false
namespace Go.Ab
/-- internal/bytealg.Compare: the model has its value -/
def bytealg_Compare.Imp (C : CSem) (N : Nat → Nat) : Prop := ∀ (x y : AVal) (a b : List UInt8) (S T : List (List AVal)) (h : AHeap) (Q : AVal → AHeap → Prop), SlX h 1 x (a.map bc) S → SlX h 1 y (b.map bc) T → Q (.int .i64 (Lib.compareBytes a b)) h → C (N 303) [x, y] h Q
end Go.Ab

/- What is told: residuals: what each function does in the abstract memory, printed by a program of mine. Definitions alone. -/
set_option linter.unusedVariables false
namespace Go.Ab
/-- storeman/storemankit.mark -/
@[simp] def kit_mark.cps (C : CSem) (N : Nat → Nat) (v0 v1 : AVal) (h : AHeap) (Q : AVal → AHeap → Prop) : Prop :=
  B.pv (V.bin .add v0 (.int .i64 7)) fun v6 =>
    B.pv (V.bin .mul (.int .i64 1000003) v6) fun v7 =>
    B.pv (V.bin .add v7 v1) fun v9 =>
    Q v9 h
def kit_mark.Imp (C : CSem) (N : Nat → Nat) : Prop := ∀ (v0 v1 : AVal) (h : AHeap) (Q : AVal → AHeap → Prop), kit_mark.cps C N v0 v1 h (dn Q) → C (N 20) [v0, v1] h Q
@[simp] def kit_SameBytes.k3 (C : CSem) (N : Nat → Nat) (Q : AVal → AHeap → Prop) (v0 v1 : AVal) (h : AHeap) : Prop :=
  B.pv (V.lenSl v0) fun v7 =>
    B.pv (V.lenSl v1) fun v9 =>
    B.pv (V.bin .neq v7 v9) fun v10 =>
    B.cond v10
    (Q (.bool false) h)
    (LoopR (sameS.l4  Q v0 v1) [(.int .i64 0)] h)
/-- storeman/storemankit.SameBytes -/
def kit_SameBytes.cps (C : CSem) (N : Nat → Nat) (v0 v1 : AVal) (h : AHeap) (Q : AVal → AHeap → Prop) : Prop :=
  kit_SameBytes.k3 C N Q v0 v1 h
def kit_SameBytes.Imp (C : CSem) (N : Nat → Nat) : Prop := ∀ (v0 v1 : AVal) (h : AHeap) (Q : AVal → AHeap → Prop), kit_SameBytes.cps C N v0 v1 h (dn Q) → C (N 34) [v0, v1] h Q
@[simp] def kit_LentBytes.k3 (C : CSem) (N : Nat → Nat) (Q : AVal → AHeap → Prop) (v0 : AVal) (h : AHeap) : Prop :=
  B.pv (V.lenSl v0) fun v6 =>
    B.pv (V.bin .add v6 (.int .i64 12)) fun v7 =>
    0 < 1 ∧ B.mks h 1 (some [.int .u8 0]) (.int .i64 0) v7 fun v8 h =>
    B.appW h 1 1 v8 v0 fun v11 h =>
    LoopR (lentS.l4 C 1 (N 64) (.int .u8 0) 1 Q v0) [v11, (.int .i64 0)] h
/-- storeman/storemankit.LentBytes -/
def kit_LentBytes.cps (C : CSem) (N : Nat → Nat) (v0 : AVal) (h : AHeap) (Q : AVal → AHeap → Prop) : Prop :=
  kit_LentBytes.k3 C N Q v0 h
def kit_LentBytes.Imp (C : CSem) (N : Nat → Nat) : Prop := ∀ (v0 : AVal) (h : AHeap) (Q : AVal → AHeap → Prop), kit_LentBytes.cps C N v0 h (dn Q) → C (N 37) [v0] h Q
@[simp] def kit_KeptBytes.k3 (C : CSem) (N : Nat → Nat) (Q : AVal → AHeap → Prop) (v0 v1 : AVal) (h : AHeap) : Prop :=
  B.pv (V.lenSl v1) fun v14 =>
    B.pv (V.bin .add v14 (.int .i64 12)) fun v15 =>
    B.pv (V.cutSl 1 v0 none (some v15)) fun v16 =>
    LoopR (keptS.l4 C (N 64) 1 Q v1 v16) [(.int .i64 0)] h
@[simp] def kit_KeptBytes.k4 (C : CSem) (N : Nat → Nat) (Q : AVal → AHeap → Prop) (v0 v1 : AVal) (h : AHeap) : Prop :=
  B.pv (V.lenSl v0) fun v8 =>
    B.pv (V.lenSl v1) fun v10 =>
    B.pv (V.bin .neq v8 v10) fun v11 =>
    B.cond v11
    (Q (.bool false) h)
    (kit_KeptBytes.k3 C N Q v0 v1 h)
/-- storeman/storemankit.KeptBytes -/
def kit_KeptBytes.cps (C : CSem) (N : Nat → Nat) (v0 v1 : AVal) (h : AHeap) (Q : AVal → AHeap → Prop) : Prop :=
  kit_KeptBytes.k4 C N Q v0 v1 h
def kit_KeptBytes.Imp (C : CSem) (N : Nat → Nat) : Prop := ∀ (v0 v1 : AVal) (h : AHeap) (Q : AVal → AHeap → Prop), kit_KeptBytes.cps C N v0 v1 h (dn Q) → C (N 39) [v0, v1] h Q
/-- storeman/storemankit.CopyBytes -/
@[simp] def kit_CopyBytes.cps (C : CSem) (N : Nat → Nat) (v0 : AVal) (h : AHeap) (Q : AVal → AHeap → Prop) : Prop :=
  B.appW h 1 1 .nils v0 fun v6 h =>
    Q v6 h
def kit_CopyBytes.Imp (C : CSem) (N : Nat → Nat) : Prop := ∀ (v0 : AVal) (h : AHeap) (Q : AVal → AHeap → Prop), kit_CopyBytes.cps C N v0 h (dn Q) → C (N 45) [v0] h Q
@[simp] def kit_bag_apart.k1 (C : CSem) (N : Nat → Nat) (Q : AVal → AHeap → Prop) (v0 : AVal) (h : AHeap) : Prop :=
  B.nilCheck v0 fun v4 =>
    B.pv (V.fieldAddr 0 v4) fun v5 =>
    B.ld h v5 fun v6 =>
    B.call C (N 80) [v6] h fun v7 h =>
    B.gd h v7 true (fun K => K v0 h) fun v9 h =>
    B.gd h v7 true (fun K => B.nilCheck v9 fun v => K v h) fun v10 h =>
    B.gd h v7 true (fun K => B.pv (V.fieldAddr 1 v10) fun v => K v h) fun v11 h =>
    B.gd h v7 true (fun K => B.ld h v11 fun v => K v h) fun v12 h =>
    B.gd h v7 true (fun K => B.call C (N 81) [v12] h K) fun v13 h =>
    B.pick v7 v13 (.bool false) fun v14 =>
    B.gd h v14 true (fun K => K v0 h) fun v16 h =>
    B.gd h v14 true (fun K => B.nilCheck v16 fun v => K v h) fun v17 h =>
    B.gd h v14 true (fun K => B.pv (V.fieldAddr 2 v17) fun v => K v h) fun v18 h =>
    B.gd h v14 true (fun K => B.ld h v18 fun v => K v h) fun v19 h =>
    B.gd h v14 true (fun K => B.call C (N 82) [v19] h K) fun v20 h =>
    B.pick v14 v20 (.bool false) fun v21 =>
    B.gd h v21 true (fun K => K v0 h) fun v23 h =>
    B.gd h v21 true (fun K => B.nilCheck v23 fun v => K v h) fun v24 h =>
    B.gd h v21 true (fun K => B.pv (V.fieldAddr 3 v24) fun v => K v h) fun v25 h =>
    B.gd h v21 true (fun K => B.ld h v25 fun v => K v h) fun v26 h =>
    B.gd h v21 true (fun K => B.call C (N 83) [v26] h K) fun v27 h =>
    B.pick v21 v27 (.bool false) fun v28 =>
    B.gd h v28 true (fun K => K v0 h) fun v30 h =>
    B.gd h v28 true (fun K => B.nilCheck v30 fun v => K v h) fun v31 h =>
    B.gd h v28 true (fun K => B.pv (V.fieldAddr 4 v31) fun v => K v h) fun v32 h =>
    B.gd h v28 true (fun K => B.ld h v32 fun v => K v h) fun v33 h =>
    B.gd h v28 true (fun K => B.call C (N 84) [v33] h K) fun v34 h =>
    B.pick v28 v34 (.bool false) fun v35 =>
    B.gd h v35 true (fun K => K v0 h) fun v37 h =>
    B.gd h v35 true (fun K => B.nilCheck v37 fun v => K v h) fun v38 h =>
    B.gd h v35 true (fun K => B.pv (V.fieldAddr 5 v38) fun v => K v h) fun v39 h =>
    B.gd h v35 true (fun K => B.ld h v39 fun v => K v h) fun v40 h =>
    B.gd h v35 true (fun K => B.call C (N 85) [v40] h K) fun v41 h =>
    B.pick v35 v41 (.bool false) fun v42 =>
    B.gd h v42 true (fun K => K v0 h) fun v44 h =>
    B.gd h v42 true (fun K => B.nilCheck v44 fun v => K v h) fun v45 h =>
    B.gd h v42 true (fun K => B.pv (V.fieldAddr 6 v45) fun v => K v h) fun v46 h =>
    B.gd h v42 true (fun K => B.ld h v46 fun v => K v h) fun v47 h =>
    B.gd h v42 true (fun K => B.call C (N 86) [v47] h K) fun v48 h =>
    B.pick v42 v48 (.bool false) fun v49 =>
    B.gd h v49 true (fun K => K v0 h) fun v51 h =>
    B.gd h v49 true (fun K => B.nilCheck v51 fun v => K v h) fun v52 h =>
    B.gd h v49 true (fun K => B.pv (V.fieldAddr 7 v52) fun v => K v h) fun v53 h =>
    B.gd h v49 true (fun K => B.ld h v53 fun v => K v h) fun v54 h =>
    B.gd h v49 true (fun K => B.call C (N 87) [v54] h K) fun v55 h =>
    B.pick v49 v55 (.bool false) fun v56 =>
    B.gd h v56 true (fun K => K v0 h) fun v58 h =>
    B.gd h v56 true (fun K => B.nilCheck v58 fun v => K v h) fun v59 h =>
    B.gd h v56 true (fun K => B.pv (V.fieldAddr 8 v59) fun v => K v h) fun v60 h =>
    B.gd h v56 true (fun K => B.ld h v60 fun v => K v h) fun v61 h =>
    B.gd h v56 true (fun K => B.call C (N 88) [v61] h K) fun v62 h =>
    B.pick v56 v62 (.bool false) fun v63 =>
    B.gd h v63 true (fun K => K v0 h) fun v65 h =>
    B.gd h v63 true (fun K => B.nilCheck v65 fun v => K v h) fun v66 h =>
    B.gd h v63 true (fun K => B.pv (V.fieldAddr 9 v66) fun v => K v h) fun v67 h =>
    B.gd h v63 true (fun K => B.ld h v67 fun v => K v h) fun v68 h =>
    B.gd h v63 true (fun K => B.call C (N 89) [v68] h K) fun v69 h =>
    B.pick v63 v69 (.bool false) fun v70 =>
    B.gd h v70 true (fun K => K v0 h) fun v72 h =>
    B.gd h v70 true (fun K => B.nilCheck v72 fun v => K v h) fun v73 h =>
    B.gd h v70 true (fun K => B.pv (V.fieldAddr 10 v73) fun v => K v h) fun v74 h =>
    B.gd h v70 true (fun K => B.ld h v74 fun v => K v h) fun v75 h =>
    B.gd h v70 true (fun K => B.call C (N 90) [v75] h K) fun v76 h =>
    B.pick v70 v76 (.bool false) fun v77 =>
    B.gd h v77 true (fun K => K v0 h) fun v79 h =>
    B.gd h v77 true (fun K => B.nilCheck v79 fun v => K v h) fun v80 h =>
    B.gd h v77 true (fun K => B.pv (V.fieldAddr 11 v80) fun v => K v h) fun v81 h =>
    B.gd h v77 true (fun K => B.ld h v81 fun v => K v h) fun v82 h =>
    B.gd h v77 true (fun K => B.call C (N 91) [v82] h K) fun v83 h =>
    B.pick v77 v83 (.bool false) fun v84 =>
    B.gd h v84 true (fun K => K v0 h) fun v86 h =>
    B.gd h v84 true (fun K => B.nilCheck v86 fun v => K v h) fun v87 h =>
    B.gd h v84 true (fun K => B.pv (V.fieldAddr 12 v87) fun v => K v h) fun v88 h =>
    B.gd h v84 true (fun K => B.ld h v88 fun v => K v h) fun v89 h =>
    B.gd h v84 true (fun K => B.call C (N 92) [v89] h K) fun v90 h =>
    B.pick v84 v90 (.bool false) fun v91 =>
    B.gd h v91 true (fun K => K v0 h) fun v93 h =>
    B.gd h v91 true (fun K => B.nilCheck v93 fun v => K v h) fun v94 h =>
    B.gd h v91 true (fun K => B.pv (V.fieldAddr 13 v94) fun v => K v h) fun v95 h =>
    B.gd h v91 true (fun K => B.ld h v95 fun v => K v h) fun v96 h =>
    B.gd h v91 true (fun K => B.call C (N 93) [v96] h K) fun v97 h =>
    B.pick v91 v97 (.bool false) fun v98 =>
    B.gd h v98 true (fun K => K v0 h) fun v100 h =>
    B.gd h v98 true (fun K => B.nilCheck v100 fun v => K v h) fun v101 h =>
    B.gd h v98 true (fun K => B.pv (V.fieldAddr 14 v101) fun v => K v h) fun v102 h =>
    B.gd h v98 true (fun K => B.ld h v102 fun v => K v h) fun v103 h =>
    B.gd h v98 true (fun K => B.call C (N 94) [v103] h K) fun v104 h =>
    B.pick v98 v104 (.bool false) fun v105 =>
    B.gd h v105 true (fun K => K v0 h) fun v107 h =>
    B.gd h v105 true (fun K => B.nilCheck v107 fun v => K v h) fun v108 h =>
    B.gd h v105 true (fun K => B.pv (V.fieldAddr 15 v108) fun v => K v h) fun v109 h =>
    B.gd h v105 true (fun K => B.ld h v109 fun v => K v h) fun v110 h =>
    B.gd h v105 true (fun K => B.call C (N 95) [v110] h K) fun v111 h =>
    B.pick v105 v111 (.bool false) fun v112 =>
    B.gd h v112 true (fun K => K v0 h) fun v114 h =>
    B.gd h v112 true (fun K => B.nilCheck v114 fun v => K v h) fun v115 h =>
    B.gd h v112 true (fun K => B.pv (V.fieldAddr 16 v115) fun v => K v h) fun v116 h =>
    B.gd h v112 true (fun K => B.ld h v116 fun v => K v h) fun v117 h =>
    B.gd h v112 true (fun K => B.call C (N 96) [v117] h K) fun v118 h =>
    B.pick v112 v118 (.bool false) fun v119 =>
    B.gd h v119 true (fun K => K v0 h) fun v121 h =>
    B.gd h v119 true (fun K => B.nilCheck v121 fun v => K v h) fun v122 h =>
    B.gd h v119 true (fun K => B.pv (V.fieldAddr 17 v122) fun v => K v h) fun v123 h =>
    B.gd h v119 true (fun K => B.ld h v123 fun v => K v h) fun v124 h =>
    B.gd h v119 true (fun K => B.call C (N 97) [v124] h K) fun v125 h =>
    B.pick v119 v125 (.bool false) fun v126 =>
    B.gd h v126 true (fun K => K v0 h) fun v128 h =>
    B.gd h v126 true (fun K => B.nilCheck v128 fun v => K v h) fun v129 h =>
    B.gd h v126 true (fun K => B.pv (V.fieldAddr 18 v129) fun v => K v h) fun v130 h =>
    B.gd h v126 true (fun K => B.ld h v130 fun v => K v h) fun v131 h =>
    B.gd h v126 true (fun K => B.call C (N 98) [v131] h K) fun v132 h =>
    B.pick v126 v132 (.bool false) fun v133 =>
    B.gd h v133 true (fun K => K v0 h) fun v135 h =>
    B.gd h v133 true (fun K => B.nilCheck v135 fun v => K v h) fun v136 h =>
    B.gd h v133 true (fun K => B.pv (V.fieldAddr 19 v136) fun v => K v h) fun v137 h =>
    B.gd h v133 true (fun K => B.ld h v137 fun v => K v h) fun v138 h =>
    B.gd h v133 true (fun K => B.call C (N 99) [v138] h K) fun v139 h =>
    B.pick v133 v139 (.bool false) fun v140 =>
    B.gd h v140 true (fun K => K v0 h) fun v142 h =>
    B.gd h v140 true (fun K => B.nilCheck v142 fun v => K v h) fun v143 h =>
    B.gd h v140 true (fun K => B.pv (V.fieldAddr 20 v143) fun v => K v h) fun v144 h =>
    B.gd h v140 true (fun K => B.ld h v144 fun v => K v h) fun v145 h =>
    B.gd h v140 true (fun K => B.call C (N 100) [v145] h K) fun v146 h =>
    B.pick v140 v146 (.bool false) fun v147 =>
    B.gd h v147 true (fun K => K v0 h) fun v149 h =>
    B.gd h v147 true (fun K => B.nilCheck v149 fun v => K v h) fun v150 h =>
    B.gd h v147 true (fun K => B.pv (V.fieldAddr 21 v150) fun v => K v h) fun v151 h =>
    B.gd h v147 true (fun K => B.ld h v151 fun v => K v h) fun v152 h =>
    B.gd h v147 true (fun K => B.call C (N 101) [v152] h K) fun v153 h =>
    B.pick v147 v153 (.bool false) fun v154 =>
    B.gd h v154 true (fun K => K v0 h) fun v156 h =>
    B.gd h v154 true (fun K => B.nilCheck v156 fun v => K v h) fun v157 h =>
    B.gd h v154 true (fun K => B.pv (V.fieldAddr 22 v157) fun v => K v h) fun v158 h =>
    B.gd h v154 true (fun K => B.ld h v158 fun v => K v h) fun v159 h =>
    B.gd h v154 true (fun K => B.call C (N 102) [v159] h K) fun v160 h =>
    B.pick v154 v160 (.bool false) fun v161 =>
    Q v161 h
/-- (ptr storeman/storemankit.bag).apart -/
@[simp] def kit_bag_apart.cps (C : CSem) (N : Nat → Nat) (v0 : AVal) (h : AHeap) (Q : AVal → AHeap → Prop) : Prop :=
  kit_bag_apart.k1 C N Q v0 h
def kit_bag_apart.Imp (C : CSem) (N : Nat → Nat) : Prop := ∀ (v0 : AVal) (h : AHeap) (Q : AVal → AHeap → Prop), kit_bag_apart.cps C N v0 h (dn Q) → C (N 62) [v0] h Q
@[simp] def kit_bag_putBytes.k1 (C : CSem) (N : Nat → Nat) (Q : AVal → AHeap → Prop) (v0 v1 : AVal) (h : AHeap) : Prop :=
  B.nilCheck v0 fun v6 =>
    B.pv (V.fieldAddr 4 v6) fun v7 =>
    B.ld h v7 fun v8 =>
    B.newO h (fillL [(0, none, v1)] (repL 1 [.nils])) fun i10 h =>
    B.appW h 1 24 v8 (.sl i10 0 0 1 1 1) fun v11 h =>
    B.nilCheck v0 fun v12 =>
    B.pv (V.fieldAddr 4 v12) fun v13 =>
    B.st h v13 v11 fun h =>
    Q (.tup []) h
/-- (ptr storeman/storemankit.bag).putBytes -/
@[simp] def kit_bag_putBytes.cps (C : CSem) (N : Nat → Nat) (v0 v1 : AVal) (h : AHeap) (Q : AVal → AHeap → Prop) : Prop :=
  kit_bag_putBytes.k1 C N Q v0 v1 h
def kit_bag_putBytes.Imp (C : CSem) (N : Nat → Nat) : Prop := ∀ (v0 v1 : AVal) (h : AHeap) (Q : AVal → AHeap → Prop), kit_bag_putBytes.cps C N v0 v1 h (dn Q) → C (N 63) [v0, v1] h Q
@[simp] def kit_markByte.k1 (C : CSem) (N : Nat → Nat) (Q : AVal → AHeap → Prop) (v0 v1 : AVal) (h : AHeap) : Prop :=
  B.call C (N 20) [v0, v1] h fun v7 h =>
    B.pv (V.toInt .u64 v7) fun v8 =>
    B.pv (V.bin .mul v8 (.int .u64 11400714819323198485)) fun v9 =>
    B.pv (V.bin .shr v9 (.int .u64 56)) fun v10 =>
    B.pv (V.toInt .u8 v10) fun v11 =>
    Q v11 h
/-- storeman/storemankit.markByte -/
@[simp] def kit_markByte.cps (C : CSem) (N : Nat → Nat) (v0 v1 : AVal) (h : AHeap) (Q : AVal → AHeap → Prop) : Prop :=
  kit_markByte.k1 C N Q v0 v1 h
def kit_markByte.Imp (C : CSem) (N : Nat → Nat) : Prop := ∀ (v0 v1 : AVal) (h : AHeap) (Q : AVal → AHeap → Prop), kit_markByte.cps C N v0 v1 h (dn Q) → C (N 64) [v0, v1] h Q
@[simp] def kit_flatWords.k1 (C : CSem) (N : Nat → Nat) (Q : AVal → AHeap → Prop) (Y1 : List AVal → AHeap → Prop) (Y2 : List AVal → AHeap → Prop) (v0 v5 v14 v15 : AVal) (h : AHeap) : Prop :=
  B.pv (V.idxS 1 v0 v14) fun v166 =>
    B.ld h v166 fun v167 =>
    B.pv (V.lenSl v167) fun v168 =>
    B.pv (V.bin .lss v15 v168) fun v169 =>
    B.cond v169
    (B.pv (V.idxS 1 v0 v14) fun v174 =>
    B.ld h v174 fun v175 =>
    B.pv (V.idxS 1 v175 v15) fun v177 =>
    B.ld h v177 fun v178 =>
    B.call C (N 20) [v14, v15] h (B.keepS h [(v174, none), (v177, none)] (fun v181 h => B.pv (V.toInt .u64 v181) fun v182 =>
    B.pv (V.bin .eql v178 v182) fun v183 =>
    B.pv (V.un .not v183) fun v184 =>
    B.gd h v184 false (fun K => K v5 h) fun v186 h =>
    B.gd h v184 false (fun K => K v14 h) fun v187 h =>
    B.gd h v184 false (fun K => B.pv (V.idxS 1 v186 v187) fun v => K v h) fun v188 h =>
    B.gd h v184 false (fun K => B.ld h v188 fun v => K v h) fun v189 h =>
    B.gd h v184 false (fun K => K v15 h) fun v190 h =>
    B.gd h v184 false (fun K => B.pv (V.idxS 1 v189 v190) fun v => K v h) fun v191 h =>
    B.gd h v184 false (fun K => B.ld h v191 fun v => K v h) fun v192 h =>
    B.gd h v184 false (fun K => K v14 h) fun v193 h =>
    B.gd h v184 false (fun K => K v15 h) fun v194 h =>
    B.gd h v184 false (fun K => B.call C (N 20) [v193, v194] h (B.keepS h [(v188, none), (v191, none)] K)) fun v195 h =>
    B.gd h v184 false (fun K => B.pv (V.toInt .u64 v195) fun v => K v h) fun v196 h =>
    B.gd h v184 false (fun K => B.pv (V.bin .eql v192 v196) fun v => K v h) fun v197 h =>
    B.gd h v184 false (fun K => B.pv (V.un .not v197) fun v => K v h) fun v198 h =>
    B.pick v184 (.bool true) v198 fun v199 =>
    B.cond v199
    (Q (.bool false) h)
    (B.pv (V.bin .add v15 (.int .i64 1)) fun v171 =>
    Y2 [v171] h))))
    (B.pv (V.bin .add v14 (.int .i64 1)) fun v162 =>
    Y1 [v162] h)
@[simp] def kit_flatWords.l2 (C : CSem) (N : Nat → Nat) (Q : AVal → AHeap → Prop) (Y1 : List AVal → AHeap → Prop) (v0 v5 v14 : AVal) : List AVal → AHeap → (List AVal → AHeap → Prop) → Prop
  | [v15], h, Y2 => kit_flatWords.k1 C N Q Y1 Y2 v0 v5 v14 v15 h
  | _, _, _ => False
@[simp] def kit_flatWords.k3 (C : CSem) (N : Nat → Nat) (Q : AVal → AHeap → Prop) (Y1 : List AVal → AHeap → Prop) (v0 v5 v14 : AVal) (h : AHeap) : Prop :=
  B.pv (V.lenSl v0) fun v159 =>
    B.pv (V.bin .lss v14 v159) fun v160 =>
    B.cond v160
    (LoopR (kit_flatWords.l2 C N Q Y1 v0 v5 v14) [(.int .i64 0)] h)
    (Q (.bool true) h)
@[simp] def kit_flatWords.l4 (C : CSem) (N : Nat → Nat) (Q : AVal → AHeap → Prop) (v0 v5 : AVal) : List AVal → AHeap → (List AVal → AHeap → Prop) → Prop
  | [v14], h, Y1 => kit_flatWords.k3 C N Q Y1 v0 v5 v14 h
  | _, _, _ => False
@[simp] def kit_flatWords.k5 (C : CSem) (N : Nat → Nat) (Q : AVal → AHeap → Prop) (Y3 : List AVal → AHeap → Prop) (v0 v5 v11 v12 : AVal) (h : AHeap) : Prop :=
  B.pv (V.idxS 1 v0 v11) fun v152 =>
    B.ld h v152 fun v153 =>
    B.appW h 1 8 v153 v12 fun v155 h =>
    B.pv (V.idxS 1 v5 v11) fun v156 =>
    B.st h v156 v155 fun h =>
    B.pv (V.bin .add v11 (.int .i64 1)) fun v132 =>
    Y3 [v132] h
@[simp] def kit_flatWords.k6 (C : CSem) (N : Nat → Nat) (Q : AVal → AHeap → Prop) (Y3 : List AVal → AHeap → Prop) (Y4 : List AVal → AHeap → Prop) (v0 v5 v11 v12 v13 : AVal) (h : AHeap) : Prop :=
  B.pv (V.bin .lss v13 (.int .i64 64)) fun v135 =>
    B.cond v135
    (B.pv (V.lenSl v0) fun v142 =>
    B.pv (V.bin .add v11 v142) fun v143 =>
    B.call C (N 20) [v143, v13] h fun v145 h =>
    B.pv (V.toInt .u64 v145) fun v146 =>
    B.pv (V.idxS 1 v12 v13) fun v147 =>
    B.st h v147 v146 fun h =>
    B.pv (V.bin .add v13 (.int .i64 1)) fun v137 =>
    Y4 [v137] h)
    (kit_flatWords.k5 C N Q Y3 v0 v5 v11 v12 h)
@[simp] def kit_flatWords.l7 (C : CSem) (N : Nat → Nat) (Q : AVal → AHeap → Prop) (Y3 : List AVal → AHeap → Prop) (v0 v5 v11 v12 : AVal) : List AVal → AHeap → (List AVal → AHeap → Prop) → Prop
  | [v13], h, Y4 => kit_flatWords.k6 C N Q Y3 Y4 v0 v5 v11 v12 v13 h
  | _, _, _ => False
@[simp] def kit_flatWords.k8 (C : CSem) (N : Nat → Nat) (Q : AVal → AHeap → Prop) (Y3 : List AVal → AHeap → Prop) (v0 v5 v11 : AVal) (h : AHeap) : Prop :=
  B.pv (V.lenSl v0) fun v129 =>
    B.pv (V.bin .lss v11 v129) fun v130 =>
    B.cond v130
    (0 < 1 ∧ B.mks h 8 (some [.int .u64 0]) (.int .i64 64) (.int .i64 64) fun v133 h =>
    LoopR (kit_flatWords.l7 C N Q Y3 v0 v5 v11 v133) [(.int .i64 0)] h)
    (LoopR (kit_flatWords.l4 C N Q v0 v5) [(.int .i64 0)] h)
@[simp] def kit_flatWords.l9 (C : CSem) (N : Nat → Nat) (Q : AVal → AHeap → Prop) (v0 v5 : AVal) : List AVal → AHeap → (List AVal → AHeap → Prop) → Prop
  | [v11], h, Y3 => kit_flatWords.k8 C N Q Y3 v0 v5 v11 h
  | _, _, _ => False
@[simp] def kit_flatWords.k10 (C : CSem) (N : Nat → Nat) (Q : AVal → AHeap → Prop) (Y5 : List AVal → AHeap → Prop) (Y6 : List AVal → AHeap → Prop) (v0 v5 v9 v10 : AVal) (h : AHeap) : Prop :=
  B.pv (V.idxS 1 v5 v9) fun v84 =>
    B.ld h v84 fun v85 =>
    B.pv (V.lenSl v85) fun v86 =>
    B.pv (V.bin .lss v10 v86) fun v87 =>
    B.cond v87
    (B.pv (V.idxS 1 v5 v9) fun v92 =>
    B.ld h v92 fun v93 =>
    B.pv (V.idxS 1 v93 v10) fun v95 =>
    B.ld h v95 fun v96 =>
    B.call C (N 20) [v9, v10] h (B.keepS h [(v92, none), (v95, none)] (fun v99 h => B.pv (V.toInt .u64 v99) fun v100 =>
    B.pv (V.bin .eql v96 v100) fun v101 =>
    B.pv (V.un .not v101) fun v102 =>
    B.gd h v102 false (fun K => K v10 h) fun v104 h =>
    B.gd h v102 false (fun K => K v0 h) fun v105 h =>
    B.gd h v102 false (fun K => K v9 h) fun v106 h =>
    B.gd h v102 false (fun K => B.pv (V.idxS 1 v105 v106) fun v => K v h) fun v107 h =>
    B.gd h v102 false (fun K => B.ld h v107 fun v => K v h) fun v108 h =>
    B.gd h v102 false (fun K => B.pv (V.lenSl v108) fun v => K v h) fun v109 h =>
    B.gd h v102 false (fun K => B.pv (V.bin .lss v104 v109) fun v => K v h) fun v110 h =>
    B.gd h v102 false (fun K => K v110 h) fun v111 h =>
    B.gd h v111 true (fun K => K v0 h) fun v112 h =>
    B.gd h v111 true (fun K => K v9 h) fun v113 h =>
    B.gd h v111 true (fun K => B.pv (V.idxS 1 v112 v113) fun v => K v h) fun v114 h =>
    B.gd h v111 true (fun K => B.ld h v114 fun v => K v h) fun v115 h =>
    B.gd h v111 true (fun K => K v10 h) fun v116 h =>
    B.gd h v111 true (fun K => B.pv (V.idxS 1 v115 v116) fun v => K v h) fun v117 h =>
    B.gd h v111 true (fun K => B.ld h v117 fun v => K v h) fun v118 h =>
    B.gd h v111 true (fun K => K v9 h) fun v119 h =>
    B.gd h v111 true (fun K => K v10 h) fun v120 h =>
    B.gd h v111 true (fun K => B.call C (N 20) [v119, v120] h (B.keepS h [(v114, none), (v117, none)] K)) fun v121 h =>
    B.gd h v111 true (fun K => B.pv (V.toInt .u64 v121) fun v => K v h) fun v122 h =>
    B.gd h v111 true (fun K => B.pv (V.bin .eql v118 v122) fun v => K v h) fun v123 h =>
    B.gd h v111 true (fun K => B.pv (V.un .not v123) fun v => K v h) fun v124 h =>
    B.gd h v102 false (fun K => B.pick v111 v124 (.bool false) fun v => K v h) fun v125 h =>
    B.pick v102 (.bool true) v125 fun v126 =>
    B.cond v126
    (Q (.bool false) h)
    (B.pv (V.bin .add v10 (.int .i64 1)) fun v89 =>
    Y6 [v89] h))))
    (B.pv (V.bin .add v9 (.int .i64 1)) fun v80 =>
    Y5 [v80] h)
@[simp] def kit_flatWords.l11 (C : CSem) (N : Nat → Nat) (Q : AVal → AHeap → Prop) (Y5 : List AVal → AHeap → Prop) (v0 v5 v9 : AVal) : List AVal → AHeap → (List AVal → AHeap → Prop) → Prop
  | [v10], h, Y6 => kit_flatWords.k10 C N Q Y5 Y6 v0 v5 v9 v10 h
  | _, _, _ => False
@[simp] def kit_flatWords.k12 (C : CSem) (N : Nat → Nat) (Q : AVal → AHeap → Prop) (Y5 : List AVal → AHeap → Prop) (v0 v5 v9 : AVal) (h : AHeap) : Prop :=
  B.pv (V.lenSl v0) fun v77 =>
    B.pv (V.bin .lss v9 v77) fun v78 =>
    B.cond v78
    (LoopR (kit_flatWords.l11 C N Q Y5 v0 v5 v9) [(.int .i64 0)] h)
    (LoopR (kit_flatWords.l9 C N Q v0 v5) [(.int .i64 0)] h)
@[simp] def kit_flatWords.l13 (C : CSem) (N : Nat → Nat) (Q : AVal → AHeap → Prop) (v0 v5 : AVal) : List AVal → AHeap → (List AVal → AHeap → Prop) → Prop
  | [v9], h, Y5 => kit_flatWords.k12 C N Q Y5 v0 v5 v9 h
  | _, _, _ => False
@[simp] def kit_flatWords.k14 (C : CSem) (N : Nat → Nat) (Q : AVal → AHeap → Prop) (Y7 : List AVal → AHeap → Prop) (Y8 : List AVal → AHeap → Prop) (v0 v5 v6 v7 v8 : AVal) (h : AHeap) : Prop :=
  B.pv (V.bin .lss v8 (.int .i64 64)) fun v55 =>
    B.cond v55
    (B.pv (V.idxS 1 v0 v6) fun v62 =>
    B.ld h v62 fun v63 =>
    B.pv (V.lenSl v63) fun v64 =>
    B.pv (V.bin .add v64 v8) fun v66 =>
    B.call C (N 20) [v6, v66] h fun v67 h =>
    B.pv (V.toInt .u64 v67) fun v68 =>
    B.newO h (fillL [(0, none, v68)] (repL 1 [.int .u64 0])) fun i69 h =>
    B.appW h 1 8 v7 (.sl i69 0 0 1 1 1) fun v70 h =>
    B.pv (V.bin .add v8 (.int .i64 1)) fun v57 =>
    Y8 [v70, v57] h)
    (B.pv (V.idxS 1 v5 v6) fun v74 =>
    B.st h v74 v7 fun h =>
    B.pv (V.bin .add v6 (.int .i64 1)) fun v49 =>
    Y7 [v49] h)
@[simp] def kit_flatWords.l15 (C : CSem) (N : Nat → Nat) (Q : AVal → AHeap → Prop) (Y7 : List AVal → AHeap → Prop) (v0 v5 v6 : AVal) : List AVal → AHeap → (List AVal → AHeap → Prop) → Prop
  | [v7, v8], h, Y8 => kit_flatWords.k14 C N Q Y7 Y8 v0 v5 v6 v7 v8 h
  | _, _, _ => False
@[simp] def kit_flatWords.k16 (C : CSem) (N : Nat → Nat) (Q : AVal → AHeap → Prop) (Y7 : List AVal → AHeap → Prop) (v0 v5 v6 : AVal) (h : AHeap) : Prop :=
  B.pv (V.lenSl v0) fun v46 =>
    B.pv (V.bin .lss v6 v46) fun v47 =>
    B.cond v47
    (B.pv (V.idxS 1 v0 v6) fun v52 =>
    B.ld h v52 fun v53 =>
    LoopR (kit_flatWords.l15 C N Q Y7 v0 v5 v6) [v53, (.int .i64 0)] h)
    (LoopR (kit_flatWords.l13 C N Q v0 v5) [(.int .i64 0)] h)
@[simp] def kit_flatWords.l17 (C : CSem) (N : Nat → Nat) (Q : AVal → AHeap → Prop) (v0 v5 : AVal) : List AVal → AHeap → (List AVal → AHeap → Prop) → Prop
  | [v6], h, Y7 => kit_flatWords.k16 C N Q Y7 v0 v5 v6 h
  | _, _, _ => False
@[simp] def kit_flatWords.k18 (C : CSem) (N : Nat → Nat) (Q : AVal → AHeap → Prop) (Y9 : List AVal → AHeap → Prop) (Y10 : List AVal → AHeap → Prop) (v0 v3 v4 : AVal) (h : AHeap) : Prop :=
  B.pv (V.idxS 1 v0 v3) fun v25 =>
    B.ld h v25 fun v26 =>
    B.pv (V.lenSl v26) fun v27 =>
    B.pv (V.bin .lss v4 v27) fun v28 =>
    B.cond v28
    (B.pv (V.idxS 1 v0 v3) fun v33 =>
    B.ld h v33 fun v34 =>
    B.call C (N 20) [v3, v4] h (B.keepS h [(v33, none)] (fun v38 h => B.pv (V.toInt .u64 v38) fun v39 =>
    B.pv (V.idxS 1 v34 v4) fun v40 =>
    B.st h v40 v39 fun h =>
    B.pv (V.bin .add v4 (.int .i64 1)) fun v30 =>
    Y10 [v30] h)))
    (B.pv (V.bin .add v3 (.int .i64 1)) fun v21 =>
    Y9 [v21] h)
@[simp] def kit_flatWords.l19 (C : CSem) (N : Nat → Nat) (Q : AVal → AHeap → Prop) (Y9 : List AVal → AHeap → Prop) (v0 v3 : AVal) : List AVal → AHeap → (List AVal → AHeap → Prop) → Prop
  | [v4], h, Y10 => kit_flatWords.k18 C N Q Y9 Y10 v0 v3 v4 h
  | _, _, _ => False
@[simp] def kit_flatWords.k20 (C : CSem) (N : Nat → Nat) (Q : AVal → AHeap → Prop) (Y9 : List AVal → AHeap → Prop) (v0 v3 : AVal) (h : AHeap) : Prop :=
  B.pv (V.lenSl v0) fun v18 =>
    B.pv (V.bin .lss v3 v18) fun v19 =>
    B.cond v19
    (LoopR (kit_flatWords.l19 C N Q Y9 v0 v3) [(.int .i64 0)] h)
    (B.pv (V.lenSl v0) fun v42 =>
    0 < 1 ∧ B.mks h 24 (some [.nils]) v42 v42 fun v43 h =>
    LoopR (kit_flatWords.l17 C N Q v0 v43) [(.int .i64 0)] h)
@[simp] def kit_flatWords.l21 (C : CSem) (N : Nat → Nat) (Q : AVal → AHeap → Prop) (v0 : AVal) : List AVal → AHeap → (List AVal → AHeap → Prop) → Prop
  | [v3], h, Y9 => kit_flatWords.k20 C N Q Y9 v0 v3 h
  | _, _, _ => False
/-- storeman/storemankit.flatWords -/
@[simp] def kit_flatWords.cps (C : CSem) (N : Nat → Nat) (v0 : AVal) (h : AHeap) (Q : AVal → AHeap → Prop) : Prop :=
  LoopR (kit_flatWords.l21 C N Q v0) [(.int .i64 0)] h
def kit_flatWords.Imp (C : CSem) (N : Nat → Nat) : Prop := ∀ (v0 : AVal) (h : AHeap) (Q : AVal → AHeap → Prop), kit_flatWords.cps C N v0 h (dn Q) → C (N 80) [v0] h Q
/-- storeman/storemankit.flatInts -/
def kit_flatInts.cps (C : CSem) (N : Nat → Nat) (v0 : AVal) (h : AHeap) (Q : AVal → AHeap → Prop) : Prop :=
  LoopR (flatG.l103 (opsS 8 (.int .i64 0) (N 20)) C Q v0) [(.int .i64 0)] h
def kit_flatInts.Imp (C : CSem) (N : Nat → Nat) : Prop := ∀ (v0 : AVal) (h : AHeap) (Q : AVal → AHeap → Prop), kit_flatInts.cps C N v0 h (dn Q) → C (N 81) [v0] h Q
@[simp] def kit_flatLongs.k1 (C : CSem) (N : Nat → Nat) (Q : AVal → AHeap → Prop) (Y1 : List AVal → AHeap → Prop) (Y2 : List AVal → AHeap → Prop) (v0 v5 v14 v15 : AVal) (h : AHeap) : Prop :=
  B.pv (V.idxS 1 v0 v14) fun v161 =>
    B.ld h v161 fun v162 =>
    B.pv (V.lenSl v162) fun v163 =>
    B.pv (V.bin .lss v15 v163) fun v164 =>
    B.cond v164
    (B.pv (V.idxS 1 v0 v14) fun v169 =>
    B.ld h v169 fun v170 =>
    B.pv (V.idxS 1 v170 v15) fun v172 =>
    B.ld h v172 fun v173 =>
    B.call C (N 20) [v14, v15] h (B.keepS h [(v169, none), (v172, none)] (fun v176 h => B.pv (V.bin .eql v173 v176) fun v177 =>
    B.pv (V.un .not v177) fun v178 =>
    B.gd h v178 false (fun K => K v5 h) fun v180 h =>
    B.gd h v178 false (fun K => K v14 h) fun v181 h =>
    B.gd h v178 false (fun K => B.pv (V.idxS 1 v180 v181) fun v => K v h) fun v182 h =>
    B.gd h v178 false (fun K => B.ld h v182 fun v => K v h) fun v183 h =>
    B.gd h v178 false (fun K => K v15 h) fun v184 h =>
    B.gd h v178 false (fun K => B.pv (V.idxS 1 v183 v184) fun v => K v h) fun v185 h =>
    B.gd h v178 false (fun K => B.ld h v185 fun v => K v h) fun v186 h =>
    B.gd h v178 false (fun K => K v14 h) fun v187 h =>
    B.gd h v178 false (fun K => K v15 h) fun v188 h =>
    B.gd h v178 false (fun K => B.call C (N 20) [v187, v188] h (B.keepS h [(v182, none), (v185, none)] K)) fun v189 h =>
    B.gd h v178 false (fun K => B.pv (V.bin .eql v186 v189) fun v => K v h) fun v190 h =>
    B.gd h v178 false (fun K => B.pv (V.un .not v190) fun v => K v h) fun v191 h =>
    B.pick v178 (.bool true) v191 fun v192 =>
    B.cond v192
    (Q (.bool false) h)
    (B.pv (V.bin .add v15 (.int .i64 1)) fun v166 =>
    Y2 [v166] h))))
    (B.pv (V.bin .add v14 (.int .i64 1)) fun v157 =>
    Y1 [v157] h)
@[simp] def kit_flatLongs.l2 (C : CSem) (N : Nat → Nat) (Q : AVal → AHeap → Prop) (Y1 : List AVal → AHeap → Prop) (v0 v5 v14 : AVal) : List AVal → AHeap → (List AVal → AHeap → Prop) → Prop
  | [v15], h, Y2 => kit_flatLongs.k1 C N Q Y1 Y2 v0 v5 v14 v15 h
  | _, _, _ => False
@[simp] def kit_flatLongs.k3 (C : CSem) (N : Nat → Nat) (Q : AVal → AHeap → Prop) (Y1 : List AVal → AHeap → Prop) (v0 v5 v14 : AVal) (h : AHeap) : Prop :=
  B.pv (V.lenSl v0) fun v154 =>
    B.pv (V.bin .lss v14 v154) fun v155 =>
    B.cond v155
    (LoopR (kit_flatLongs.l2 C N Q Y1 v0 v5 v14) [(.int .i64 0)] h)
    (Q (.bool true) h)
@[simp] def kit_flatLongs.l4 (C : CSem) (N : Nat → Nat) (Q : AVal → AHeap → Prop) (v0 v5 : AVal) : List AVal → AHeap → (List AVal → AHeap → Prop) → Prop
  | [v14], h, Y1 => kit_flatLongs.k3 C N Q Y1 v0 v5 v14 h
  | _, _, _ => False
@[simp] def kit_flatLongs.k5 (C : CSem) (N : Nat → Nat) (Q : AVal → AHeap → Prop) (Y3 : List AVal → AHeap → Prop) (v0 v5 v11 v12 : AVal) (h : AHeap) : Prop :=
  B.pv (V.idxS 1 v0 v11) fun v147 =>
    B.ld h v147 fun v148 =>
    B.appW h 1 8 v148 v12 fun v150 h =>
    B.pv (V.idxS 1 v5 v11) fun v151 =>
    B.st h v151 v150 fun h =>
    B.pv (V.bin .add v11 (.int .i64 1)) fun v128 =>
    Y3 [v128] h
@[simp] def kit_flatLongs.k6 (C : CSem) (N : Nat → Nat) (Q : AVal → AHeap → Prop) (Y3 : List AVal → AHeap → Prop) (Y4 : List AVal → AHeap → Prop) (v0 v5 v11 v12 v13 : AVal) (h : AHeap) : Prop :=
  B.pv (V.bin .lss v13 (.int .i64 64)) fun v131 =>
    B.cond v131
    (B.pv (V.lenSl v0) fun v138 =>
    B.pv (V.bin .add v11 v138) fun v139 =>
    B.call C (N 20) [v139, v13] h fun v141 h =>
    B.pv (V.idxS 1 v12 v13) fun v142 =>
    B.st h v142 v141 fun h =>
    B.pv (V.bin .add v13 (.int .i64 1)) fun v133 =>
    Y4 [v133] h)
    (kit_flatLongs.k5 C N Q Y3 v0 v5 v11 v12 h)
@[simp] def kit_flatLongs.l7 (C : CSem) (N : Nat → Nat) (Q : AVal → AHeap → Prop) (Y3 : List AVal → AHeap → Prop) (v0 v5 v11 v12 : AVal) : List AVal → AHeap → (List AVal → AHeap → Prop) → Prop
  | [v13], h, Y4 => kit_flatLongs.k6 C N Q Y3 Y4 v0 v5 v11 v12 v13 h
  | _, _, _ => False
@[simp] def kit_flatLongs.k8 (C : CSem) (N : Nat → Nat) (Q : AVal → AHeap → Prop) (Y3 : List AVal → AHeap → Prop) (v0 v5 v11 : AVal) (h : AHeap) : Prop :=
  B.pv (V.lenSl v0) fun v125 =>
    B.pv (V.bin .lss v11 v125) fun v126 =>
    B.cond v126
    (0 < 1 ∧ B.mks h 8 (some [.int .i64 0]) (.int .i64 64) (.int .i64 64) fun v129 h =>
    LoopR (kit_flatLongs.l7 C N Q Y3 v0 v5 v11 v129) [(.int .i64 0)] h)
    (LoopR (kit_flatLongs.l4 C N Q v0 v5) [(.int .i64 0)] h)
@[simp] def kit_flatLongs.l9 (C : CSem) (N : Nat → Nat) (Q : AVal → AHeap → Prop) (v0 v5 : AVal) : List AVal → AHeap → (List AVal → AHeap → Prop) → Prop
  | [v11], h, Y3 => kit_flatLongs.k8 C N Q Y3 v0 v5 v11 h
  | _, _, _ => False
@[simp] def kit_flatLongs.k10 (C : CSem) (N : Nat → Nat) (Q : AVal → AHeap → Prop) (Y5 : List AVal → AHeap → Prop) (Y6 : List AVal → AHeap → Prop) (v0 v5 v9 v10 : AVal) (h : AHeap) : Prop :=
  B.pv (V.idxS 1 v5 v9) fun v82 =>
    B.ld h v82 fun v83 =>
    B.pv (V.lenSl v83) fun v84 =>
    B.pv (V.bin .lss v10 v84) fun v85 =>
    B.cond v85
    (B.pv (V.idxS 1 v5 v9) fun v90 =>
    B.ld h v90 fun v91 =>
    B.pv (V.idxS 1 v91 v10) fun v93 =>
    B.ld h v93 fun v94 =>
    B.call C (N 20) [v9, v10] h (B.keepS h [(v90, none), (v93, none)] (fun v97 h => B.pv (V.bin .eql v94 v97) fun v98 =>
    B.pv (V.un .not v98) fun v99 =>
    B.gd h v99 false (fun K => K v10 h) fun v101 h =>
    B.gd h v99 false (fun K => K v0 h) fun v102 h =>
    B.gd h v99 false (fun K => K v9 h) fun v103 h =>
    B.gd h v99 false (fun K => B.pv (V.idxS 1 v102 v103) fun v => K v h) fun v104 h =>
    B.gd h v99 false (fun K => B.ld h v104 fun v => K v h) fun v105 h =>
    B.gd h v99 false (fun K => B.pv (V.lenSl v105) fun v => K v h) fun v106 h =>
    B.gd h v99 false (fun K => B.pv (V.bin .lss v101 v106) fun v => K v h) fun v107 h =>
    B.gd h v99 false (fun K => K v107 h) fun v108 h =>
    B.gd h v108 true (fun K => K v0 h) fun v109 h =>
    B.gd h v108 true (fun K => K v9 h) fun v110 h =>
    B.gd h v108 true (fun K => B.pv (V.idxS 1 v109 v110) fun v => K v h) fun v111 h =>
    B.gd h v108 true (fun K => B.ld h v111 fun v => K v h) fun v112 h =>
    B.gd h v108 true (fun K => K v10 h) fun v113 h =>
    B.gd h v108 true (fun K => B.pv (V.idxS 1 v112 v113) fun v => K v h) fun v114 h =>
    B.gd h v108 true (fun K => B.ld h v114 fun v => K v h) fun v115 h =>
    B.gd h v108 true (fun K => K v9 h) fun v116 h =>
    B.gd h v108 true (fun K => K v10 h) fun v117 h =>
    B.gd h v108 true (fun K => B.call C (N 20) [v116, v117] h (B.keepS h [(v111, none), (v114, none)] K)) fun v118 h =>
    B.gd h v108 true (fun K => B.pv (V.bin .eql v115 v118) fun v => K v h) fun v119 h =>
    B.gd h v108 true (fun K => B.pv (V.un .not v119) fun v => K v h) fun v120 h =>
    B.gd h v99 false (fun K => B.pick v108 v120 (.bool false) fun v => K v h) fun v121 h =>
    B.pick v99 (.bool true) v121 fun v122 =>
    B.cond v122
    (Q (.bool false) h)
    (B.pv (V.bin .add v10 (.int .i64 1)) fun v87 =>
    Y6 [v87] h))))
    (B.pv (V.bin .add v9 (.int .i64 1)) fun v78 =>
    Y5 [v78] h)
@[simp] def kit_flatLongs.l11 (C : CSem) (N : Nat → Nat) (Q : AVal → AHeap → Prop) (Y5 : List AVal → AHeap → Prop) (v0 v5 v9 : AVal) : List AVal → AHeap → (List AVal → AHeap → Prop) → Prop
  | [v10], h, Y6 => kit_flatLongs.k10 C N Q Y5 Y6 v0 v5 v9 v10 h
  | _, _, _ => False
@[simp] def kit_flatLongs.k12 (C : CSem) (N : Nat → Nat) (Q : AVal → AHeap → Prop) (Y5 : List AVal → AHeap → Prop) (v0 v5 v9 : AVal) (h : AHeap) : Prop :=
  B.pv (V.lenSl v0) fun v75 =>
    B.pv (V.bin .lss v9 v75) fun v76 =>
    B.cond v76
    (LoopR (kit_flatLongs.l11 C N Q Y5 v0 v5 v9) [(.int .i64 0)] h)
    (LoopR (kit_flatLongs.l9 C N Q v0 v5) [(.int .i64 0)] h)
@[simp] def kit_flatLongs.l13 (C : CSem) (N : Nat → Nat) (Q : AVal → AHeap → Prop) (v0 v5 : AVal) : List AVal → AHeap → (List AVal → AHeap → Prop) → Prop
  | [v9], h, Y5 => kit_flatLongs.k12 C N Q Y5 v0 v5 v9 h
  | _, _, _ => False
@[simp] def kit_flatLongs.k14 (C : CSem) (N : Nat → Nat) (Q : AVal → AHeap → Prop) (Y7 : List AVal → AHeap → Prop) (Y8 : List AVal → AHeap → Prop) (v0 v5 v6 v7 v8 : AVal) (h : AHeap) : Prop :=
  B.pv (V.bin .lss v8 (.int .i64 64)) fun v54 =>
    B.cond v54
    (B.pv (V.idxS 1 v0 v6) fun v61 =>
    B.ld h v61 fun v62 =>
    B.pv (V.lenSl v62) fun v63 =>
    B.pv (V.bin .add v63 v8) fun v65 =>
    B.call C (N 20) [v6, v65] h fun v66 h =>
    B.newO h (fillL [(0, none, v66)] (repL 1 [.int .i64 0])) fun i67 h =>
    B.appW h 1 8 v7 (.sl i67 0 0 1 1 1) fun v68 h =>
    B.pv (V.bin .add v8 (.int .i64 1)) fun v56 =>
    Y8 [v68, v56] h)
    (B.pv (V.idxS 1 v5 v6) fun v72 =>
    B.st h v72 v7 fun h =>
    B.pv (V.bin .add v6 (.int .i64 1)) fun v48 =>
    Y7 [v48] h)
@[simp] def kit_flatLongs.l15 (C : CSem) (N : Nat → Nat) (Q : AVal → AHeap → Prop) (Y7 : List AVal → AHeap → Prop) (v0 v5 v6 : AVal) : List AVal → AHeap → (List AVal → AHeap → Prop) → Prop
  | [v7, v8], h, Y8 => kit_flatLongs.k14 C N Q Y7 Y8 v0 v5 v6 v7 v8 h
  | _, _, _ => False
@[simp] def kit_flatLongs.k16 (C : CSem) (N : Nat → Nat) (Q : AVal → AHeap → Prop) (Y7 : List AVal → AHeap → Prop) (v0 v5 v6 : AVal) (h : AHeap) : Prop :=
  B.pv (V.lenSl v0) fun v45 =>
    B.pv (V.bin .lss v6 v45) fun v46 =>
    B.cond v46
    (B.pv (V.idxS 1 v0 v6) fun v51 =>
    B.ld h v51 fun v52 =>
    LoopR (kit_flatLongs.l15 C N Q Y7 v0 v5 v6) [v52, (.int .i64 0)] h)
    (LoopR (kit_flatLongs.l13 C N Q v0 v5) [(.int .i64 0)] h)
@[simp] def kit_flatLongs.l17 (C : CSem) (N : Nat → Nat) (Q : AVal → AHeap → Prop) (v0 v5 : AVal) : List AVal → AHeap → (List AVal → AHeap → Prop) → Prop
  | [v6], h, Y7 => kit_flatLongs.k16 C N Q Y7 v0 v5 v6 h
  | _, _, _ => False
@[simp] def kit_flatLongs.k18 (C : CSem) (N : Nat → Nat) (Q : AVal → AHeap → Prop) (Y9 : List AVal → AHeap → Prop) (Y10 : List AVal → AHeap → Prop) (v0 v3 v4 : AVal) (h : AHeap) : Prop :=
  B.pv (V.idxS 1 v0 v3) fun v25 =>
    B.ld h v25 fun v26 =>
    B.pv (V.lenSl v26) fun v27 =>
    B.pv (V.bin .lss v4 v27) fun v28 =>
    B.cond v28
    (B.pv (V.idxS 1 v0 v3) fun v33 =>
    B.ld h v33 fun v34 =>
    B.call C (N 20) [v3, v4] h (B.keepS h [(v33, none)] (fun v38 h => B.pv (V.idxS 1 v34 v4) fun v39 =>
    B.st h v39 v38 fun h =>
    B.pv (V.bin .add v4 (.int .i64 1)) fun v30 =>
    Y10 [v30] h)))
    (B.pv (V.bin .add v3 (.int .i64 1)) fun v21 =>
    Y9 [v21] h)
@[simp] def kit_flatLongs.l19 (C : CSem) (N : Nat → Nat) (Q : AVal → AHeap → Prop) (Y9 : List AVal → AHeap → Prop) (v0 v3 : AVal) : List AVal → AHeap → (List AVal → AHeap → Prop) → Prop
  | [v4], h, Y10 => kit_flatLongs.k18 C N Q Y9 Y10 v0 v3 v4 h
  | _, _, _ => False
@[simp] def kit_flatLongs.k20 (C : CSem) (N : Nat → Nat) (Q : AVal → AHeap → Prop) (Y9 : List AVal → AHeap → Prop) (v0 v3 : AVal) (h : AHeap) : Prop :=
  B.pv (V.lenSl v0) fun v18 =>
    B.pv (V.bin .lss v3 v18) fun v19 =>
    B.cond v19
    (LoopR (kit_flatLongs.l19 C N Q Y9 v0 v3) [(.int .i64 0)] h)
    (B.pv (V.lenSl v0) fun v41 =>
    0 < 1 ∧ B.mks h 24 (some [.nils]) v41 v41 fun v42 h =>
    LoopR (kit_flatLongs.l17 C N Q v0 v42) [(.int .i64 0)] h)
@[simp] def kit_flatLongs.l21 (C : CSem) (N : Nat → Nat) (Q : AVal → AHeap → Prop) (v0 : AVal) : List AVal → AHeap → (List AVal → AHeap → Prop) → Prop
  | [v3], h, Y9 => kit_flatLongs.k20 C N Q Y9 v0 v3 h
  | _, _, _ => False
/-- storeman/storemankit.flatLongs -/
@[simp] def kit_flatLongs.cps (C : CSem) (N : Nat → Nat) (v0 : AVal) (h : AHeap) (Q : AVal → AHeap → Prop) : Prop :=
  LoopR (kit_flatLongs.l21 C N Q v0) [(.int .i64 0)] h
def kit_flatLongs.Imp (C : CSem) (N : Nat → Nat) : Prop := ∀ (v0 : AVal) (h : AHeap) (Q : AVal → AHeap → Prop), kit_flatLongs.cps C N v0 h (dn Q) → C (N 82) [v0] h Q
/-- storeman/storemankit.flatTexts -/
def kit_flatTexts.cps (C : CSem) (N : Nat → Nat) (v0 : AVal) (h : AHeap) (Q : AVal → AHeap → Prop) : Prop :=
  LoopR (flatG.l103 (opsS 16 (.str []) (N 106)) C Q v0) [(.int .i64 0)] h
def kit_flatTexts.Imp (C : CSem) (N : Nat → Nat) : Prop := ∀ (v0 : AVal) (h : AHeap) (Q : AVal → AHeap → Prop), kit_flatTexts.cps C N v0 h (dn Q) → C (N 83) [v0] h Q
/-- storeman/storemankit.flatBytes -/
def kit_flatBytes.cps (C : CSem) (N : Nat → Nat) (v0 : AVal) (h : AHeap) (Q : AVal → AHeap → Prop) : Prop :=
  LoopR (flatG.l103 (opsS 1 (.int .u8 0) (N 64)) C Q v0) [(.int .i64 0)] h
def kit_flatBytes.Imp (C : CSem) (N : Nat → Nat) : Prop := ∀ (v0 : AVal) (h : AHeap) (Q : AVal → AHeap → Prop), kit_flatBytes.cps C N v0 h (dn Q) → C (N 84) [v0] h Q
/-- storeman/storemankit.flatWindows -/
def kit_flatWindows.cps (C : CSem) (N : Nat → Nat) (v0 : AVal) (h : AHeap) (Q : AVal → AHeap → Prop) : Prop :=
  LoopR (flatG.l103 (opsF 2 16 [.int .i64 0, .int .i64 0] (N 18) [.i .i64, .i .i64]) C Q v0) [(.int .i64 0)] h
def kit_flatWindows.Imp (C : CSem) (N : Nat → Nat) : Prop := ∀ (v0 : AVal) (h : AHeap) (Q : AVal → AHeap → Prop), kit_flatWindows.cps C N v0 h (dn Q) → C (N 85) [v0] h Q
/-- storeman/storemankit.flatLots -/
def kit_flatLots.cps (C : CSem) (N : Nat → Nat) (v0 : AVal) (h : AHeap) (Q : AVal → AHeap → Prop) : Prop :=
  LoopR (flatG.l103 (opsF 6 56 [.int .i64 0, .str [], .int .i64 0, .int .i64 0, .int .i64 0, .bool false] (N 77) [.i .i64, .s, .i .i64, .i .i64, .i .i64, .b]) C Q v0) [(.int .i64 0)] h
def kit_flatLots.Imp (C : CSem) (N : Nat → Nat) : Prop := ∀ (v0 : AVal) (h : AHeap) (Q : AVal → AHeap → Prop), kit_flatLots.cps C N v0 h (dn Q) → C (N 86) [v0] h Q
/-- storeman/storemankit.flatWants -/
def kit_flatWants.cps (C : CSem) (N : Nat → Nat) (v0 : AVal) (h : AHeap) (Q : AVal → AHeap → Prop) : Prop :=
  LoopR (flatG.l103 (opsF 3 32 [.str [], .int .i64 0, .int .i64 0] (N 107) [.s, .i .i64, .i .i64]) C Q v0) [(.int .i64 0)] h
def kit_flatWants.Imp (C : CSem) (N : Nat → Nat) : Prop := ∀ (v0 : AVal) (h : AHeap) (Q : AVal → AHeap → Prop), kit_flatWants.cps C N v0 h (dn Q) → C (N 87) [v0] h Q
/-- storeman/storemankit.flatUses -/
def kit_flatUses.cps (C : CSem) (N : Nat → Nat) (v0 : AVal) (h : AHeap) (Q : AVal → AHeap → Prop) : Prop :=
  LoopR (flatG.l103 (opsF 3 24 [.int .i64 0, .int .i64 0, .int .i64 0] (N 78) [.i .i64, .i .i64, .i .i64]) C Q v0) [(.int .i64 0)] h
def kit_flatUses.Imp (C : CSem) (N : Nat → Nat) : Prop := ∀ (v0 : AVal) (h : AHeap) (Q : AVal → AHeap → Prop), kit_flatUses.cps C N v0 h (dn Q) → C (N 88) [v0] h Q
/-- storeman/storemankit.flatParts -/
def kit_flatParts.cps (C : CSem) (N : Nat → Nat) (v0 : AVal) (h : AHeap) (Q : AVal → AHeap → Prop) : Prop :=
  LoopR (flatG.l103 (opsF 2 24 [.str [], .int .i64 0] (N 108) [.s, .i .i64]) C Q v0) [(.int .i64 0)] h
def kit_flatParts.Imp (C : CSem) (N : Nat → Nat) : Prop := ∀ (v0 : AVal) (h : AHeap) (Q : AVal → AHeap → Prop), kit_flatParts.cps C N v0 h (dn Q) → C (N 89) [v0] h Q
/-- storeman/storemankit.flatItems -/
def kit_flatItems.cps (C : CSem) (N : Nat → Nat) (v0 : AVal) (h : AHeap) (Q : AVal → AHeap → Prop) : Prop :=
  LoopR (flatG.l103 (opsD C 4 72 [.str [], .int .i64 0, .nils, .nils] (N 109) (N 110)) C Q v0) [(.int .i64 0)] h
def kit_flatItems.Imp (C : CSem) (N : Nat → Nat) : Prop := ∀ (v0 : AVal) (h : AHeap) (Q : AVal → AHeap → Prop), kit_flatItems.cps C N v0 h (dn Q) → C (N 90) [v0] h Q
/-- storeman/storemankit.flatLines -/
def kit_flatLines.cps (C : CSem) (N : Nat → Nat) (v0 : AVal) (h : AHeap) (Q : AVal → AHeap → Prop) : Prop :=
  LoopR (flatG.l103 (opsF 8 80 [.int .i64 0, .str [], .int .i64 0, .int .i64 0, .int .i64 0, .int .u8 0, .int .i64 0, .str []] (N 111) [.i .i64, .s, .i .i64, .i .i64, .i .i64, .i .u8, .i .i64, .s]) C Q v0) [(.int .i64 0)] h
def kit_flatLines.Imp (C : CSem) (N : Nat → Nat) : Prop := ∀ (v0 : AVal) (h : AHeap) (Q : AVal → AHeap → Prop), kit_flatLines.cps C N v0 h (dn Q) → C (N 91) [v0] h Q
/-- storeman/storemankit.flatAsks -/
def kit_flatAsks.cps (C : CSem) (N : Nat → Nat) (v0 : AVal) (h : AHeap) (Q : AVal → AHeap → Prop) : Prop :=
  LoopR (flatG.l103 (opsD C 11 128 [.int .u8 0, .int .i64 0, .str [], .int .i64 0, .int .i64 0, .int .i64 0, .int .i64 0, .int .i64 0, .int .i64 0, .nils, .nils] (N 112) (N 113)) C Q v0) [(.int .i64 0)] h
def kit_flatAsks.Imp (C : CSem) (N : Nat → Nat) : Prop := ∀ (v0 : AVal) (h : AHeap) (Q : AVal → AHeap → Prop), kit_flatAsks.cps C N v0 h (dn Q) → C (N 92) [v0] h Q
/-- storeman/storemankit.flatTells -/
def kit_flatTells.cps (C : CSem) (N : Nat → Nat) (v0 : AVal) (h : AHeap) (Q : AVal → AHeap → Prop) : Prop :=
  LoopR (flatG.l103 (opsD C 7 96 [.int .i64 0, .int .i64 0, .int .i64 0, .str [], .int .u8 0, .nils, .nils] (N 114) (N 42)) C Q v0) [(.int .i64 0)] h
def kit_flatTells.Imp (C : CSem) (N : Nat → Nat) : Prop := ∀ (v0 : AVal) (h : AHeap) (Q : AVal → AHeap → Prop), kit_flatTells.cps C N v0 h (dn Q) → C (N 93) [v0] h Q
/-- storeman/storemankit.flatStates -/
def kit_flatStates.cps (C : CSem) (N : Nat → Nat) (v0 : AVal) (h : AHeap) (Q : AVal → AHeap → Prop) : Prop :=
  LoopR (flatG.l103 (opsD C 6 96 [.int .i64 0, .int .i64 0, .int .i64 0, .nils, .nils, .nils] (N 115) (N 116)) C Q v0) [(.int .i64 0)] h
def kit_flatStates.Imp (C : CSem) (N : Nat → Nat) : Prop := ∀ (v0 : AVal) (h : AHeap) (Q : AVal → AHeap → Prop), kit_flatStates.cps C N v0 h (dn Q) → C (N 94) [v0] h Q
/-- storeman/storemankit.flatRows -/
def kit_flatRows.cps (C : CSem) (N : Nat → Nat) (v0 : AVal) (h : AHeap) (Q : AVal → AHeap → Prop) : Prop :=
  LoopR (flatG.l103 (opsD C 2 48 [.nils, .nils] (N 117) (N 118)) C Q v0) [(.int .i64 0)] h
def kit_flatRows.Imp (C : CSem) (N : Nat → Nat) : Prop := ∀ (v0 : AVal) (h : AHeap) (Q : AVal → AHeap → Prop), kit_flatRows.cps C N v0 h (dn Q) → C (N 95) [v0] h Q
/-- storeman/storemankit.flatTurns -/
def kit_flatTurns.cps (C : CSem) (N : Nat → Nat) (v0 : AVal) (h : AHeap) (Q : AVal → AHeap → Prop) : Prop :=
  LoopR (flatG.l103 (opsD C 3 72 [.nils, .nils, .nils] (N 119) (N 120)) C Q v0) [(.int .i64 0)] h
def kit_flatTurns.Imp (C : CSem) (N : Nat → Nat) : Prop := ∀ (v0 : AVal) (h : AHeap) (Q : AVal → AHeap → Prop), kit_flatTurns.cps C N v0 h (dn Q) → C (N 96) [v0] h Q
/-- storeman/storemankit.flatFates -/
def kit_flatFates.cps (C : CSem) (N : Nat → Nat) (v0 : AVal) (h : AHeap) (Q : AVal → AHeap → Prop) : Prop :=
  LoopR (flatG.l103 (opsF 1 8 [.int .i64 0] (N 121) [.i .i64]) C Q v0) [(.int .i64 0)] h
def kit_flatFates.Imp (C : CSem) (N : Nat → Nat) : Prop := ∀ (v0 : AVal) (h : AHeap) (Q : AVal → AHeap → Prop), kit_flatFates.cps C N v0 h (dn Q) → C (N 97) [v0] h Q
/-- storeman/storemankit.flatDirties -/
def kit_flatDirties.cps (C : CSem) (N : Nat → Nat) (v0 : AVal) (h : AHeap) (Q : AVal → AHeap → Prop) : Prop :=
  LoopR (flatG.l103 (opsF 2 16 [.int .i64 0, .int .i64 0] (N 122) [.i .i64, .i .i64]) C Q v0) [(.int .i64 0)] h
def kit_flatDirties.Imp (C : CSem) (N : Nat → Nat) : Prop := ∀ (v0 : AVal) (h : AHeap) (Q : AVal → AHeap → Prop), kit_flatDirties.cps C N v0 h (dn Q) → C (N 98) [v0] h Q
/-- storeman/storemankit.flatOpens -/
def kit_flatOpens.cps (C : CSem) (N : Nat → Nat) (v0 : AVal) (h : AHeap) (Q : AVal → AHeap → Prop) : Prop :=
  LoopR (flatG.l103 (opsF 2 16 [.int .i64 0, .int .i64 0] (N 123) [.i .i64, .i .i64]) C Q v0) [(.int .i64 0)] h
def kit_flatOpens.Imp (C : CSem) (N : Nat → Nat) : Prop := ∀ (v0 : AVal) (h : AHeap) (Q : AVal → AHeap → Prop), kit_flatOpens.cps C N v0 h (dn Q) → C (N 99) [v0] h Q
/-- storeman/storemankit.flatRecords -/
def kit_flatRecords.cps (C : CSem) (N : Nat → Nat) (v0 : AVal) (h : AHeap) (Q : AVal → AHeap → Prop) : Prop :=
  LoopR (flatG.l103 (opsD C 11 168 [.int .i64 0, .int .i64 0, .int .i64 0, .int .i64 0, .int .u8 0, .int .i64 0, .nils, .nils, .nils, .nils, .nils] (N 124) (N 125)) C Q v0) [(.int .i64 0)] h
def kit_flatRecords.Imp (C : CSem) (N : Nat → Nat) : Prop := ∀ (v0 : AVal) (h : AHeap) (Q : AVal → AHeap → Prop), kit_flatRecords.cps C N v0 h (dn Q) → C (N 100) [v0] h Q
/-- storeman/storemankit.flatSteps -/
def kit_flatSteps.cps (C : CSem) (N : Nat → Nat) (v0 : AVal) (h : AHeap) (Q : AVal → AHeap → Prop) : Prop :=
  LoopR (flatG.l103 (opsD C 15 176 [.int .u8 0, .int .i64 0, .int .i64 0, .int .u8 0, .int .i64 0, .str [], .int .i64 0, .int .i64 0, .int .i64 0, .int .i64 0, .int .i64 0, .int .i64 0, .nils, .nils, .nils] (N 126) (N 127)) C Q v0) [(.int .i64 0)] h
def kit_flatSteps.Imp (C : CSem) (N : Nat → Nat) : Prop := ∀ (v0 : AVal) (h : AHeap) (Q : AVal → AHeap → Prop), kit_flatSteps.cps C N v0 h (dn Q) → C (N 101) [v0] h Q
/-- storeman/storemankit.flatTales -/
def kit_flatTales.cps (C : CSem) (N : Nat → Nat) (v0 : AVal) (h : AHeap) (Q : AVal → AHeap → Prop) : Prop :=
  LoopR (flatG.l103 (opsD C 21 248 [.int .u8 0, .int .i64 0, .int .i64 0, .int .u8 0, .int .i64 0, .str [], .int .i64 0, .int .i64 0, .int .i64 0, .int .i64 0, .int .i64 0, .int .i64 0, .nils, .nils, .int .i64 0, .int .i64 0, .int .i64 0, .str [], .int .u8 0, .nils, .nils] (N 128) (N 129)) C Q v0) [(.int .i64 0)] h
def kit_flatTales.Imp (C : CSem) (N : Nat → Nat) : Prop := ∀ (v0 : AVal) (h : AHeap) (Q : AVal → AHeap → Prop), kit_flatTales.cps C N v0 h (dn Q) → C (N 102) [v0] h Q
@[simp] def kit_markRow.k1 (C : CSem) (N : Nat → Nat) (Q : AVal → AHeap → Prop) (v0 v1 : AVal) (h : AHeap) : Prop :=
  B.call C (N 64) [v0, v1] h fun v7 h =>
    B.newO h (fillL [(0, none, v7)] (repL 1 [.int .u8 0])) fun i8 h =>
    B.pv (A.bld [(0, none, (.sl i8 0 0 1 1 1))] [.nils, .nils]) fun v9 =>
    B.pv (V.setN 0 2 v9 (.agg [.nils, .nils])) fun c4 =>
    B.pv (oneOf (joinV (V.fieldN 0 2 c4) (some []))) fun v => Q v h
/-- storeman/storemankit.markRow -/
@[simp] def kit_markRow.cps (C : CSem) (N : Nat → Nat) (v0 v1 : AVal) (h : AHeap) (Q : AVal → AHeap → Prop) : Prop :=
  kit_markRow.k1 C N Q v0 v1 h
def kit_markRow.Imp (C : CSem) (N : Nat → Nat) : Prop := ∀ (v0 v1 : AVal) (h : AHeap) (Q : AVal → AHeap → Prop), kit_markRow.cps C N v0 v1 h (dn Q) → C (N 117) [v0, v1] h Q
@[simp] def kit_SameRow.k1 (C : CSem) (N : Nat → Nat) (Q : AVal → AHeap → Prop) (v0 v1 : AVal) (h : AHeap) : Prop :=
  B.pv (A.boxN 2 v0) fun c2 =>
    B.pv (A.boxN 2 v1) fun c3 =>
    B.al c2 (B.pv (V.field1 0 c2) fun v6 =>
    B.al c3 (B.pv (V.field1 0 c3) fun v8 =>
    B.call C (N 34) [v6, v8] h fun v9 h =>
    B.al c2 (B.gd h v9 true (fun K => K .undef h) fun _ h =>
    B.gd h v9 true (fun K => B.pv (V.field1 1 c2) fun v => K v h) fun v12 h =>
    B.al c3 (B.gd h v9 true (fun K => K .undef h) fun _ h =>
    B.gd h v9 true (fun K => B.pv (V.field1 1 c3) fun v => K v h) fun v14 h =>
    B.gd h v9 true (fun K => B.call C (N 34) [v12, v14] h K) fun v15 h =>
    B.pick v9 v15 (.bool false) fun v16 =>
    Q v16 h))))
/-- storeman/storemankit.SameRow -/
@[simp] def kit_SameRow.cps (C : CSem) (N : Nat → Nat) (v0 v1 : AVal) (h : AHeap) (Q : AVal → AHeap → Prop) : Prop :=
  kit_SameRow.k1 C N Q v0 v1 h
def kit_SameRow.Imp (C : CSem) (N : Nat → Nat) : Prop := ∀ (v0 v1 : AVal) (h : AHeap) (Q : AVal → AHeap → Prop), kit_SameRow.cps C N v0 v1 h (dn Q) → C (N 118) [v0, v1] h Q
@[simp] def kit_markTurn.k1 (C : CSem) (N : Nat → Nat) (Q : AVal → AHeap → Prop) (v0 v1 : AVal) (h : AHeap) : Prop :=
  B.call C (N 64) [v0, v1] h fun v7 h =>
    B.newO h (fillL [(0, none, v7)] (repL 1 [.int .u8 0])) fun i8 h =>
    B.pv (A.bld [(0, none, (.sl i8 0 0 1 1 1))] [.nils, .nils, .nils]) fun v9 =>
    B.pv (V.setN 0 3 v9 (.agg [.nils, .nils, .nils])) fun c4 =>
    B.pv (oneOf (joinV (V.fieldN 0 3 c4) (some []))) fun v => Q v h
/-- storeman/storemankit.markTurn -/
@[simp] def kit_markTurn.cps (C : CSem) (N : Nat → Nat) (v0 v1 : AVal) (h : AHeap) (Q : AVal → AHeap → Prop) : Prop :=
  kit_markTurn.k1 C N Q v0 v1 h
def kit_markTurn.Imp (C : CSem) (N : Nat → Nat) : Prop := ∀ (v0 v1 : AVal) (h : AHeap) (Q : AVal → AHeap → Prop), kit_markTurn.cps C N v0 v1 h (dn Q) → C (N 119) [v0, v1] h Q
@[simp] def kit_SameTurn.k1 (C : CSem) (N : Nat → Nat) (Q : AVal → AHeap → Prop) (v0 v1 : AVal) (h : AHeap) : Prop :=
  B.pv (A.boxN 3 v0) fun c2 =>
    B.pv (A.boxN 3 v1) fun c3 =>
    B.al c2 (B.pv (V.field1 0 c2) fun v6 =>
    B.al c3 (B.pv (V.field1 0 c3) fun v8 =>
    B.call C (N 34) [v6, v8] h fun v9 h =>
    B.al c2 (B.gd h v9 true (fun K => K .undef h) fun _ h =>
    B.gd h v9 true (fun K => B.pv (V.field1 1 c2) fun v => K v h) fun v12 h =>
    B.al c3 (B.gd h v9 true (fun K => K .undef h) fun _ h =>
    B.gd h v9 true (fun K => B.pv (V.field1 1 c3) fun v => K v h) fun v14 h =>
    B.gd h v9 true (fun K => B.call C (N 34) [v12, v14] h K) fun v15 h =>
    B.pick v9 v15 (.bool false) fun v16 =>
    B.al c2 (B.gd h v16 true (fun K => K .undef h) fun _ h =>
    B.gd h v16 true (fun K => B.pv (V.field1 2 c2) fun v => K v h) fun v19 h =>
    B.al c3 (B.gd h v16 true (fun K => K .undef h) fun _ h =>
    B.gd h v16 true (fun K => B.pv (V.field1 2 c3) fun v => K v h) fun v21 h =>
    B.gd h v16 true (fun K => B.call C (N 34) [v19, v21] h K) fun v22 h =>
    B.pick v16 v22 (.bool false) fun v23 =>
    Q v23 h))))))
/-- storeman/storemankit.SameTurn -/
@[simp] def kit_SameTurn.cps (C : CSem) (N : Nat → Nat) (v0 v1 : AVal) (h : AHeap) (Q : AVal → AHeap → Prop) : Prop :=
  kit_SameTurn.k1 C N Q v0 v1 h
def kit_SameTurn.Imp (C : CSem) (N : Nat → Nat) : Prop := ∀ (v0 v1 : AVal) (h : AHeap) (Q : AVal → AHeap → Prop), kit_SameTurn.cps C N v0 v1 h (dn Q) → C (N 120) [v0, v1] h Q
@[simp] def kit_SameRows.k1 (C : CSem) (N : Nat → Nat) (Q : AVal → AHeap → Prop) (Y1 : List AVal → AHeap → Prop) (v0 v1 v5 : AVal) (h : AHeap) : Prop :=
  B.pv (V.lenSl v0) fun v13 =>
    B.pv (V.bin .lss v5 v13) fun v14 =>
    B.cond v14
    (B.pv (V.idxS 2 v0 v5) fun v19 =>
    B.ldn h v19 2 fun v20 =>
    B.pv (V.idxS 2 v1 v5) fun v23 =>
    B.ldn h v23 2 fun v24 =>
    B.call C (N 118) [v20, v24] h fun v25 h =>
    B.pv (V.un .not v25) fun v26 =>
    B.cond v26
    (Q (.bool false) h)
    (B.pv (V.bin .add v5 (.int .i64 1)) fun v16 =>
    Y1 [v16] h))
    (Q (.bool true) h)
@[simp] def kit_SameRows.l2 (C : CSem) (N : Nat → Nat) (Q : AVal → AHeap → Prop) (v0 v1 : AVal) : List AVal → AHeap → (List AVal → AHeap → Prop) → Prop
  | [v5], h, Y1 => kit_SameRows.k1 C N Q Y1 v0 v1 v5 h
  | _, _, _ => False
@[simp] def kit_SameRows.k3 (C : CSem) (N : Nat → Nat) (Q : AVal → AHeap → Prop) (v0 v1 : AVal) (h : AHeap) : Prop :=
  B.pv (V.lenSl v0) fun v7 =>
    B.pv (V.lenSl v1) fun v9 =>
    B.pv (V.bin .neq v7 v9) fun v10 =>
    B.cond v10
    (Q (.bool false) h)
    (LoopR (kit_SameRows.l2 C N Q v0 v1) [(.int .i64 0)] h)
/-- storeman/storemankit.SameRows -/
@[simp] def kit_SameRows.cps (C : CSem) (N : Nat → Nat) (v0 v1 : AVal) (h : AHeap) (Q : AVal → AHeap → Prop) : Prop :=
  kit_SameRows.k3 C N Q v0 v1 h
def kit_SameRows.Imp (C : CSem) (N : Nat → Nat) : Prop := ∀ (v0 v1 : AVal) (h : AHeap) (Q : AVal → AHeap → Prop), kit_SameRows.cps C N v0 v1 h (dn Q) → C (N 263) [v0, v1] h Q
@[simp] def kit_CopyRows.k1 (C : CSem) (N : Nat → Nat) (Q : AVal → AHeap → Prop) (Y1 : List AVal → AHeap → Prop) (v0 v3 v4 : AVal) (h : AHeap) : Prop :=
  B.pv (V.lenSl v0) fun v8 =>
    B.pv (V.bin .lss v4 v8) fun v9 =>
    B.cond v9
    (B.pv (V.idxS 2 v0 v4) fun v14 =>
    B.ldn h v14 2 fun v15 =>
    B.call C (N 311) [v15] h fun v16 h =>
    B.pv (V.setN 0 2 v16 (.agg [.nils, .nils])) fun c5 =>
    B.pv (V.fieldN 0 2 c5) fun v18 =>
    B.newO h (fillL [(0, some 2, v18)] (repL 1 [.nils, .nils])) fun i19 h =>
    B.appW h 2 48 v3 (.sl i19 0 0 1 2 1) fun v20 h =>
    B.pv (V.bin .add v4 (.int .i64 1)) fun v11 =>
    Y1 [v20, v11] h)
    (Q v3 h)
@[simp] def kit_CopyRows.l2 (C : CSem) (N : Nat → Nat) (Q : AVal → AHeap → Prop) (v0 : AVal) : List AVal → AHeap → (List AVal → AHeap → Prop) → Prop
  | [v3, v4], h, Y1 => kit_CopyRows.k1 C N Q Y1 v0 v3 v4 h
  | _, _, _ => False
/-- storeman/storemankit.CopyRows -/
@[simp] def kit_CopyRows.cps (C : CSem) (N : Nat → Nat) (v0 : AVal) (h : AHeap) (Q : AVal → AHeap → Prop) : Prop :=
  LoopR (kit_CopyRows.l2 C N Q v0) [.nils, (.int .i64 0)] h
def kit_CopyRows.Imp (C : CSem) (N : Nat → Nat) : Prop := ∀ (v0 : AVal) (h : AHeap) (Q : AVal → AHeap → Prop), kit_CopyRows.cps C N v0 h (dn Q) → C (N 306) [v0] h Q
@[simp] def kit_ApartRows.k1 (C : CSem) (N : Nat → Nat) (Q : AVal → AHeap → Prop) (Y1 : List AVal → AHeap → Prop) (v0 v3 v4 : AVal) (h : AHeap) : Prop :=
  B.pv (V.lenSl v0) fun v9 =>
    B.pv (V.bin .lss v4 v9) fun v10 =>
    B.cond v10
    (B.pv (V.idxS 1 v0 v4) fun v16 =>
    B.ld h v16 fun v17 =>
    B.call C (N 312) [v3, v17] h fun v18 h =>
    B.pv (V.bin .add v4 (.int .i64 1)) fun v12 =>
    Y1 [v12] h)
    (B.call C (N 62) [v3] h fun v20 h =>
    Q v20 h)
@[simp] def kit_ApartRows.l2 (C : CSem) (N : Nat → Nat) (Q : AVal → AHeap → Prop) (v0 v3 : AVal) : List AVal → AHeap → (List AVal → AHeap → Prop) → Prop
  | [v4], h, Y1 => kit_ApartRows.k1 C N Q Y1 v0 v3 v4 h
  | _, _, _ => False
@[simp] def kit_ApartRows.k3 (C : CSem) (N : Nat → Nat) (Q : AVal → AHeap → Prop) (v0 : AVal) (h : AHeap) : Prop :=
  B.pv (A.bld [] [.nils, .nils, .nils, .nils, .nils, .nils, .nils, .nils, .nils, .nils, .nils, .nils, .nils, .nils, .nils, .nils, .nils, .nils, .nils, .nils, .nils, .nils, .nils]) fun v5 =>
    B.newO h (A.cellsN 23 v5) fun i6 h =>
    LoopR (kit_ApartRows.l2 C N Q v0 (.ptr i6 0 0)) [(.int .i64 0)] h
/-- storeman/storemankit.ApartRows -/
@[simp] def kit_ApartRows.cps (C : CSem) (N : Nat → Nat) (v0 : AVal) (h : AHeap) (Q : AVal → AHeap → Prop) : Prop :=
  kit_ApartRows.k3 C N Q v0 h
def kit_ApartRows.Imp (C : CSem) (N : Nat → Nat) : Prop := ∀ (v0 : AVal) (h : AHeap) (Q : AVal → AHeap → Prop), kit_ApartRows.cps C N v0 h (dn Q) → C (N 307) [v0] h Q
@[simp] def kit_CopyTurns.k1 (C : CSem) (N : Nat → Nat) (Q : AVal → AHeap → Prop) (Y1 : List AVal → AHeap → Prop) (v0 v3 v4 : AVal) (h : AHeap) : Prop :=
  B.pv (V.lenSl v0) fun v8 =>
    B.pv (V.bin .lss v4 v8) fun v9 =>
    B.cond v9
    (B.pv (V.idxS 3 v0 v4) fun v14 =>
    B.ldn h v14 3 fun v15 =>
    B.call C (N 314) [v15] h fun v16 h =>
    B.pv (V.setN 0 3 v16 (.agg [.nils, .nils, .nils])) fun c5 =>
    B.pv (V.fieldN 0 3 c5) fun v18 =>
    B.newO h (fillL [(0, some 3, v18)] (repL 1 [.nils, .nils, .nils])) fun i19 h =>
    B.appW h 3 72 v3 (.sl i19 0 0 1 3 1) fun v20 h =>
    B.pv (V.bin .add v4 (.int .i64 1)) fun v11 =>
    Y1 [v20, v11] h)
    (Q v3 h)
@[simp] def kit_CopyTurns.l2 (C : CSem) (N : Nat → Nat) (Q : AVal → AHeap → Prop) (v0 : AVal) : List AVal → AHeap → (List AVal → AHeap → Prop) → Prop
  | [v3, v4], h, Y1 => kit_CopyTurns.k1 C N Q Y1 v0 v3 v4 h
  | _, _, _ => False
/-- storeman/storemankit.CopyTurns -/
@[simp] def kit_CopyTurns.cps (C : CSem) (N : Nat → Nat) (v0 : AVal) (h : AHeap) (Q : AVal → AHeap → Prop) : Prop :=
  LoopR (kit_CopyTurns.l2 C N Q v0) [.nils, (.int .i64 0)] h
def kit_CopyTurns.Imp (C : CSem) (N : Nat → Nat) : Prop := ∀ (v0 : AVal) (h : AHeap) (Q : AVal → AHeap → Prop), kit_CopyTurns.cps C N v0 h (dn Q) → C (N 308) [v0] h Q
@[simp] def kit_ApartTurns.k1 (C : CSem) (N : Nat → Nat) (Q : AVal → AHeap → Prop) (Y1 : List AVal → AHeap → Prop) (v0 v3 v4 : AVal) (h : AHeap) : Prop :=
  B.pv (V.lenSl v0) fun v9 =>
    B.pv (V.bin .lss v4 v9) fun v10 =>
    B.cond v10
    (B.pv (V.idxS 1 v0 v4) fun v16 =>
    B.ld h v16 fun v17 =>
    B.call C (N 313) [v3, v17] h fun v18 h =>
    B.pv (V.bin .add v4 (.int .i64 1)) fun v12 =>
    Y1 [v12] h)
    (B.call C (N 62) [v3] h fun v20 h =>
    Q v20 h)
@[simp] def kit_ApartTurns.l2 (C : CSem) (N : Nat → Nat) (Q : AVal → AHeap → Prop) (v0 v3 : AVal) : List AVal → AHeap → (List AVal → AHeap → Prop) → Prop
  | [v4], h, Y1 => kit_ApartTurns.k1 C N Q Y1 v0 v3 v4 h
  | _, _, _ => False
@[simp] def kit_ApartTurns.k3 (C : CSem) (N : Nat → Nat) (Q : AVal → AHeap → Prop) (v0 : AVal) (h : AHeap) : Prop :=
  B.pv (A.bld [] [.nils, .nils, .nils, .nils, .nils, .nils, .nils, .nils, .nils, .nils, .nils, .nils, .nils, .nils, .nils, .nils, .nils, .nils, .nils, .nils, .nils, .nils, .nils]) fun v5 =>
    B.newO h (A.cellsN 23 v5) fun i6 h =>
    LoopR (kit_ApartTurns.l2 C N Q v0 (.ptr i6 0 0)) [(.int .i64 0)] h
/-- storeman/storemankit.ApartTurns -/
@[simp] def kit_ApartTurns.cps (C : CSem) (N : Nat → Nat) (v0 : AVal) (h : AHeap) (Q : AVal → AHeap → Prop) : Prop :=
  kit_ApartTurns.k3 C N Q v0 h
def kit_ApartTurns.Imp (C : CSem) (N : Nat → Nat) : Prop := ∀ (v0 : AVal) (h : AHeap) (Q : AVal → AHeap → Prop), kit_ApartTurns.cps C N v0 h (dn Q) → C (N 309) [v0] h Q
@[simp] def kit_CopyRow.k1 (C : CSem) (N : Nat → Nat) (Q : AVal → AHeap → Prop) (v0 : AVal) (h : AHeap) : Prop :=
  B.pv (A.boxN 2 v0) fun c1 =>
    B.al c1 (B.pv (V.field1 0 c1) fun v4 =>
    B.call C (N 45) [v4] h fun v5 h =>
    B.al c1 (B.pv (V.setF 0 v5 c1) fun c1 =>
    B.al c1 (B.pv (V.field1 1 c1) fun v8 =>
    B.call C (N 45) [v8] h fun v9 h =>
    B.al c1 (B.pv (V.setF 1 v9 c1) fun c1 =>
    B.pv (V.fieldN 0 2 c1) fun v11 =>
    B.pv (V.setN 0 2 v11 (.agg [.nils, .nils])) fun c2 =>
    B.pv (oneOf (joinV (V.fieldN 0 2 c2) (some []))) fun v => Q v h))))
/-- storeman/storemankit.CopyRow -/
@[simp] def kit_CopyRow.cps (C : CSem) (N : Nat → Nat) (v0 : AVal) (h : AHeap) (Q : AVal → AHeap → Prop) : Prop :=
  kit_CopyRow.k1 C N Q v0 h
def kit_CopyRow.Imp (C : CSem) (N : Nat → Nat) : Prop := ∀ (v0 : AVal) (h : AHeap) (Q : AVal → AHeap → Prop), kit_CopyRow.cps C N v0 h (dn Q) → C (N 311) [v0] h Q
@[simp] def kit_bag_putRows.k1 (C : CSem) (N : Nat → Nat) (Q : AVal → AHeap → Prop) (Y1 : List AVal → AHeap → Prop) (v0 v1 v4 : AVal) (h : AHeap) : Prop :=
  B.pv (V.lenSl v1) fun v17 =>
    B.pv (V.bin .lss v4 v17) fun v18 =>
    B.cond v18
    (B.pv (V.idxS 2 v1 v4) fun v24 =>
    B.ldn h v24 2 fun v25 =>
    B.call C (N 315) [v0, v25] h fun v26 h =>
    B.pv (V.bin .add v4 (.int .i64 1)) fun v20 =>
    Y1 [v20] h)
    (Q (.tup []) h)
@[simp] def kit_bag_putRows.l2 (C : CSem) (N : Nat → Nat) (Q : AVal → AHeap → Prop) (v0 v1 : AVal) : List AVal → AHeap → (List AVal → AHeap → Prop) → Prop
  | [v4], h, Y1 => kit_bag_putRows.k1 C N Q Y1 v0 v1 v4 h
  | _, _, _ => False
@[simp] def kit_bag_putRows.k3 (C : CSem) (N : Nat → Nat) (Q : AVal → AHeap → Prop) (v0 v1 : AVal) (h : AHeap) : Prop :=
  B.nilCheck v0 fun v7 =>
    B.pv (V.fieldAddr 15 v7) fun v8 =>
    B.ld h v8 fun v9 =>
    B.newO h (fillL [(0, none, v1)] (repL 1 [.nils])) fun i11 h =>
    B.appW h 1 24 v9 (.sl i11 0 0 1 1 1) fun v12 h =>
    B.nilCheck v0 fun v13 =>
    B.pv (V.fieldAddr 15 v13) fun v14 =>
    B.st h v14 v12 fun h =>
    LoopR (kit_bag_putRows.l2 C N Q v0 v1) [(.int .i64 0)] h
/-- (ptr storeman/storemankit.bag).putRows -/
@[simp] def kit_bag_putRows.cps (C : CSem) (N : Nat → Nat) (v0 v1 : AVal) (h : AHeap) (Q : AVal → AHeap → Prop) : Prop :=
  kit_bag_putRows.k3 C N Q v0 v1 h
def kit_bag_putRows.Imp (C : CSem) (N : Nat → Nat) : Prop := ∀ (v0 v1 : AVal) (h : AHeap) (Q : AVal → AHeap → Prop), kit_bag_putRows.cps C N v0 v1 h (dn Q) → C (N 312) [v0, v1] h Q
@[simp] def kit_bag_putTurns.k1 (C : CSem) (N : Nat → Nat) (Q : AVal → AHeap → Prop) (Y1 : List AVal → AHeap → Prop) (v0 v1 v4 : AVal) (h : AHeap) : Prop :=
  B.pv (V.lenSl v1) fun v17 =>
    B.pv (V.bin .lss v4 v17) fun v18 =>
    B.cond v18
    (B.pv (V.idxS 3 v1 v4) fun v24 =>
    B.ldn h v24 3 fun v25 =>
    B.call C (N 316) [v0, v25] h fun v26 h =>
    B.pv (V.bin .add v4 (.int .i64 1)) fun v20 =>
    Y1 [v20] h)
    (Q (.tup []) h)
@[simp] def kit_bag_putTurns.l2 (C : CSem) (N : Nat → Nat) (Q : AVal → AHeap → Prop) (v0 v1 : AVal) : List AVal → AHeap → (List AVal → AHeap → Prop) → Prop
  | [v4], h, Y1 => kit_bag_putTurns.k1 C N Q Y1 v0 v1 v4 h
  | _, _, _ => False
@[simp] def kit_bag_putTurns.k3 (C : CSem) (N : Nat → Nat) (Q : AVal → AHeap → Prop) (v0 v1 : AVal) (h : AHeap) : Prop :=
  B.nilCheck v0 fun v7 =>
    B.pv (V.fieldAddr 16 v7) fun v8 =>
    B.ld h v8 fun v9 =>
    B.newO h (fillL [(0, none, v1)] (repL 1 [.nils])) fun i11 h =>
    B.appW h 1 24 v9 (.sl i11 0 0 1 1 1) fun v12 h =>
    B.nilCheck v0 fun v13 =>
    B.pv (V.fieldAddr 16 v13) fun v14 =>
    B.st h v14 v12 fun h =>
    LoopR (kit_bag_putTurns.l2 C N Q v0 v1) [(.int .i64 0)] h
/-- (ptr storeman/storemankit.bag).putTurns -/
@[simp] def kit_bag_putTurns.cps (C : CSem) (N : Nat → Nat) (v0 v1 : AVal) (h : AHeap) (Q : AVal → AHeap → Prop) : Prop :=
  kit_bag_putTurns.k3 C N Q v0 v1 h
def kit_bag_putTurns.Imp (C : CSem) (N : Nat → Nat) : Prop := ∀ (v0 v1 : AVal) (h : AHeap) (Q : AVal → AHeap → Prop), kit_bag_putTurns.cps C N v0 v1 h (dn Q) → C (N 313) [v0, v1] h Q
@[simp] def kit_CopyTurn.k1 (C : CSem) (N : Nat → Nat) (Q : AVal → AHeap → Prop) (v0 : AVal) (h : AHeap) : Prop :=
  B.pv (A.boxN 3 v0) fun c1 =>
    B.al c1 (B.pv (V.field1 0 c1) fun v4 =>
    B.call C (N 45) [v4] h fun v5 h =>
    B.al c1 (B.pv (V.setF 0 v5 c1) fun c1 =>
    B.al c1 (B.pv (V.field1 1 c1) fun v8 =>
    B.call C (N 45) [v8] h fun v9 h =>
    B.al c1 (B.pv (V.setF 1 v9 c1) fun c1 =>
    B.al c1 (B.pv (V.field1 2 c1) fun v12 =>
    B.call C (N 45) [v12] h fun v13 h =>
    B.al c1 (B.pv (V.setF 2 v13 c1) fun c1 =>
    B.pv (V.fieldN 0 3 c1) fun v15 =>
    B.pv (V.setN 0 3 v15 (.agg [.nils, .nils, .nils])) fun c2 =>
    B.pv (oneOf (joinV (V.fieldN 0 3 c2) (some []))) fun v => Q v h))))))
/-- storeman/storemankit.CopyTurn -/
@[simp] def kit_CopyTurn.cps (C : CSem) (N : Nat → Nat) (v0 : AVal) (h : AHeap) (Q : AVal → AHeap → Prop) : Prop :=
  kit_CopyTurn.k1 C N Q v0 h
def kit_CopyTurn.Imp (C : CSem) (N : Nat → Nat) : Prop := ∀ (v0 : AVal) (h : AHeap) (Q : AVal → AHeap → Prop), kit_CopyTurn.cps C N v0 h (dn Q) → C (N 314) [v0] h Q
@[simp] def kit_bag_oneRow.k1 (C : CSem) (N : Nat → Nat) (Q : AVal → AHeap → Prop) (v0 v1 : AVal) (h : AHeap) : Prop :=
  B.pv (A.boxN 2 v1) fun c3 =>
    B.al c3 (B.pv (V.field1 0 c3) fun v6 =>
    B.call C (N 63) [v0, v6] h fun v7 h =>
    B.al c3 (B.pv (V.field1 1 c3) fun v10 =>
    B.call C (N 63) [v0, v10] h fun v11 h =>
    Q (.tup []) h))
/-- (ptr storeman/storemankit.bag).oneRow -/
@[simp] def kit_bag_oneRow.cps (C : CSem) (N : Nat → Nat) (v0 v1 : AVal) (h : AHeap) (Q : AVal → AHeap → Prop) : Prop :=
  kit_bag_oneRow.k1 C N Q v0 v1 h
def kit_bag_oneRow.Imp (C : CSem) (N : Nat → Nat) : Prop := ∀ (v0 v1 : AVal) (h : AHeap) (Q : AVal → AHeap → Prop), kit_bag_oneRow.cps C N v0 v1 h (dn Q) → C (N 315) [v0, v1] h Q
@[simp] def kit_bag_oneTurn.k1 (C : CSem) (N : Nat → Nat) (Q : AVal → AHeap → Prop) (v0 v1 : AVal) (h : AHeap) : Prop :=
  B.pv (A.boxN 3 v1) fun c3 =>
    B.al c3 (B.pv (V.field1 0 c3) fun v6 =>
    B.call C (N 63) [v0, v6] h fun v7 h =>
    B.al c3 (B.pv (V.field1 1 c3) fun v10 =>
    B.call C (N 63) [v0, v10] h fun v11 h =>
    B.al c3 (B.pv (V.field1 2 c3) fun v14 =>
    B.call C (N 63) [v0, v14] h fun v15 h =>
    Q (.tup []) h)))
/-- (ptr storeman/storemankit.bag).oneTurn -/
@[simp] def kit_bag_oneTurn.cps (C : CSem) (N : Nat → Nat) (v0 v1 : AVal) (h : AHeap) (Q : AVal → AHeap → Prop) : Prop :=
  kit_bag_oneTurn.k1 C N Q v0 v1 h
def kit_bag_oneTurn.Imp (C : CSem) (N : Nat → Nat) : Prop := ∀ (v0 v1 : AVal) (h : AHeap) (Q : AVal → AHeap → Prop), kit_bag_oneTurn.cps C N v0 v1 h (dn Q) → C (N 316) [v0, v1] h Q
end Go.Ab

/- What is told: residuals: what each function does in the abstract memory, printed by a program of mine. Definitions alone. -/
set_option linter.unusedVariables false
namespace Go.Ab
@[simp] def law17_awake.k1 (C : CSem) (N : Nat → Nat) (Q : AVal → AHeap → Prop) (h : AHeap) : Prop :=
  B.call C (N 270) [(.str [97]), (.str [49])] h fun v8 h =>
    B.call C (N 270) [(.str [98]), (.str [50])] h fun v9 h =>
    B.newO h (fillL [(0, some 2, v8), (2, some 2, v9)] (repL 2 [.nils, .nils])) fun i10 h =>
    B.call C (N 270) [(.str [98]), (.str [51])] h fun v11 h =>
    B.call C (N 270) [(.str [99]), (.str [52])] h fun v12 h =>
    B.newO h (fillL [(0, some 2, v11), (2, some 2, v12)] (repL 2 [.nils, .nils])) fun i13 h =>
    B.call C (N 255) [(.sl i10 0 0 2 2 2), (.sl i13 0 0 2 2 2)] h fun v16 h =>
    B.call C (N 261) [(.sl i10 0 0 2 2 2), v16] h fun v20 h =>
    B.pv (V.ext 0 v20) fun v21 =>
    B.pv (V.ext 1 v20) fun v22 =>
    B.call C (N 264) [v16] h fun v26 h =>
    B.call C (N 261) [v21, v26] h fun v27 h =>
    B.pv (V.ext 0 v27) fun v28 =>
    B.pv (V.ext 1 v27) fun v29 =>
    B.pv (V.lenSl v16) fun v31 =>
    B.pv (V.bin .eql v31 (.int .i64 3)) fun v32 =>
    B.gd h v32 true (fun K => K v22 h) fun v34 h =>
    B.pick v32 v34 (.bool false) fun v35 =>
    B.gd h v35 true (fun K => K v21 h) fun v37 h =>
    B.gd h v35 true (fun K => K (.sl i13 0 0 2 2 2) h) fun v38 h =>
    B.gd h v35 true (fun K => B.call C (N 263) [v37, v38] h K) fun v39 h =>
    B.pick v35 v39 (.bool false) fun v40 =>
    B.gd h v40 true (fun K => K v29 h) fun v42 h =>
    B.pick v40 v42 (.bool false) fun v43 =>
    B.gd h v43 true (fun K => K v28 h) fun v45 h =>
    B.gd h v43 true (fun K => K (.sl i10 0 0 2 2 2) h) fun v46 h =>
    B.gd h v43 true (fun K => B.call C (N 263) [v45, v46] h K) fun v47 h =>
    B.pick v43 v47 (.bool false) fun v48 =>
    Q v48 h
/-- storeman/storemanlaw17.awake -/
@[simp] def law17_awake.cps (C : CSem) (N : Nat → Nat) (h : AHeap) (Q : AVal → AHeap → Prop) : Prop :=
  law17_awake.k1 C N Q h
def law17_awake.Imp (C : CSem) (N : Nat → Nat) : Prop := ∀ (h : AHeap) (Q : AVal → AHeap → Prop), law17_awake.cps C N h (dn Q) → C (N 253) [] h Q
@[simp] def law17_row.k1 (C : CSem) (N : Nat → Nat) (Q : AVal → AHeap → Prop) (v0 v1 : AVal) (h : AHeap) : Prop :=
  B.strBytes h v0 fun v6 h =>
    B.strBytes h v1 fun v8 h =>
    B.pv (A.bld [(0, none, v6), (1, none, v8)] [.nils, .nils]) fun v9 =>
    B.pv (V.setN 0 2 v9 (.agg [.nils, .nils])) fun c4 =>
    B.pv (oneOf (joinV (V.fieldN 0 2 c4) (some []))) fun v => Q v h
/-- storeman/storemanlaw17.row -/
@[simp] def law17_row.cps (C : CSem) (N : Nat → Nat) (v0 v1 : AVal) (h : AHeap) (Q : AVal → AHeap → Prop) : Prop :=
  law17_row.k1 C N Q v0 v1 h
def law17_row.Imp (C : CSem) (N : Nat → Nat) : Prop := ∀ (v0 v1 : AVal) (h : AHeap) (Q : AVal → AHeap → Prop), law17_row.cps C N v0 v1 h (dn Q) → C (N 270) [v0, v1] h Q
@[simp] def law17_DeltaUndo.k1 (C : CSem) (N : Nat → Nat) (Q : AVal → AHeap → Prop) (v0 v1 : AVal) (h : AHeap) : Prop :=
  B.call C (N 253) [] h fun v10 h =>
    B.pv (V.un .not v10) fun v11 =>
    B.cond v11
    (Q (.bool false) h)
    (B.pv (V.lenSl v0) fun v13 =>
    B.pv (V.bin .gtr v13 (.int .i64 60)) fun v14 =>
    B.gd h v14 false (fun K => K v1 h) fun v16 h =>
    B.gd h v14 false (fun K => B.pv (V.lenSl v16) fun v => K v h) fun v17 h =>
    B.gd h v14 false (fun K => B.pv (V.bin .gtr v17 (.int .i64 80)) fun v => K v h) fun v18 h =>
    B.pick v14 (.bool true) v18 fun v19 =>
    B.cond v19
    (Q (.bool true) h)
    (B.call C (N 306) [v0] h fun v21 h =>
    B.call C (N 261) [v21, v1] h fun v25 h =>
    B.pv (V.ext 0 v25) fun v26 =>
    B.pv (V.ext 1 v25) fun v27 =>
    B.pv (V.un .not v27) fun v29 =>
    B.cond v29
    (B.pv (V.lenSl v26) fun v31 =>
    B.pv (V.bin .eql v31 (.int .i64 0)) fun v32 =>
    Q v32 h)
    (B.call C (N 264) [v1] h fun v36 h =>
    B.call C (N 261) [v26, v36] h fun v37 h =>
    B.pv (V.ext 0 v37) fun v38 =>
    B.pv (V.ext 1 v37) fun v39 =>
    B.gd h v39 true (fun K => K v38 h) fun v42 h =>
    B.gd h v39 true (fun K => K v0 h) fun v43 h =>
    B.gd h v39 true (fun K => B.call C (N 263) [v42, v43] h K) fun v44 h =>
    B.pick v39 v44 (.bool false) fun v45 =>
    B.gd h v45 true (fun K => K v21 h) fun v47 h =>
    B.gd h v45 true (fun K => K v26 h) fun v48 h =>
    B.gd h v45 true (fun K => K v38 h) fun v49 h =>
    B.gd h v45 true (fun K => B.newO h (fillL [(0, none, v47), (1, none, v48), (2, none, v49)] (repL 3 [.nils])) fun i h => K (.sl i 0 0 3 1 3) h) fun v50 h =>
    B.gd h v45 true (fun K => B.call C (N 307) [v50] h K) fun v51 h =>
    B.pick v45 v51 (.bool false) fun v52 =>
    B.gd h v52 true (fun K => K v1 h) fun v54 h =>
    B.gd h v52 true (fun K => B.call C (N 308) [v54] h K) fun v55 h =>
    B.gd h v52 true (fun K => K v1 h) fun v56 h =>
    B.gd h v52 true (fun K => B.call C (N 264) [v56] h K) fun v57 h =>
    B.gd h v52 true (fun K => B.newO h (fillL [(0, none, v55), (1, none, v57)] (repL 2 [.nils])) fun i h => K (.sl i 0 0 2 1 2) h) fun v58 h =>
    B.gd h v52 true (fun K => B.call C (N 309) [v58] h K) fun v59 h =>
    B.pick v52 v59 (.bool false) fun v60 =>
    Q v60 h)))
/-- storeman/storemanlaw17.DeltaUndo -/
@[simp] def law17_DeltaUndo.cps (C : CSem) (N : Nat → Nat) (v0 v1 : AVal) (h : AHeap) (Q : AVal → AHeap → Prop) : Prop :=
  law17_DeltaUndo.k1 C N Q v0 v1 h
def law17_DeltaUndo.Imp (C : CSem) (N : Nat → Nat) : Prop := ∀ (v0 v1 : AVal) (h : AHeap) (Q : AVal → AHeap → Prop), law17_DeltaUndo.cps C N v0 v1 h (dn Q) → C (N 310) [v0, v1] h Q
end Go.Ab

/- What is told: residuals: what each function does in the abstract memory, printed by a program of mine. Definitions alone. -/
set_option linter.unusedVariables false
namespace Go.Ab
@[simp] def math_bits_Len.k1 (C : CSem) (N : Nat → Nat) (Q : AVal → AHeap → Prop) (v0 : AVal) (h : AHeap) : Prop :=
  B.cond (.bool false)
    (B.pv (V.toInt .u32 v0) fun v4 =>
    B.call C (N 304) [v4] h fun v5 h =>
    Q v5 h)
    (B.call C (N 305) [v0] h fun v7 h =>
    Q v7 h)
/-- math/bits.Len -/
@[simp] def math_bits_Len.cps (C : CSem) (N : Nat → Nat) (v0 : AVal) (h : AHeap) (Q : AVal → AHeap → Prop) : Prop :=
  math_bits_Len.k1 C N Q v0 h
def math_bits_Len.Imp (C : CSem) (N : Nat → Nat) : Prop := ∀ (v0 : AVal) (h : AHeap) (Q : AVal → AHeap → Prop), math_bits_Len.cps C N v0 h (dn Q) → C (N 287) [v0] h Q
@[simp] def math_bits_Len64.k1 (C : CSem) (N : Nat → Nat) (Q : AVal → AHeap → Prop) (v0 v2 : AVal) (h : AHeap) : Prop :=
  B.pv (V.toInt .u8 v0) fun v21 =>
    B.pv (V.idxStr (.str [0, 1, 2, 2, 3, 3, 3, 3, 4, 4, 4, 4, 4, 4, 4, 4, 5, 5, 5, 5, 5, 5, 5, 5, 5, 5, 5, 5, 5, 5, 5, 5, 6, 6, 6, 6, 6, 6, 6, 6, 6, 6, 6, 6, 6, 6, 6, 6, 6, 6, 6, 6, 6, 6, 6, 6, 6, 6, 6, 6, 6, 6, 6, 6, 7, 7, 7, 7, 7, 7, 7, 7, 7, 7, 7, 7, 7, 7, 7, 7, 7, 7, 7, 7, 7, 7, 7, 7, 7, 7, 7, 7, 7, 7, 7, 7, 7, 7, 7, 7, 7, 7, 7, 7, 7, 7, 7, 7, 7, 7, 7, 7, 7, 7, 7, 7, 7, 7, 7, 7, 7, 7, 7, 7, 7, 7, 7, 7, 8, 8, 8, 8, 8, 8, 8, 8, 8, 8, 8, 8, 8, 8, 8, 8, 8, 8, 8, 8, 8, 8, 8, 8, 8, 8, 8, 8, 8, 8, 8, 8, 8, 8, 8, 8, 8, 8, 8, 8, 8, 8, 8, 8, 8, 8, 8, 8, 8, 8, 8, 8, 8, 8, 8, 8, 8, 8, 8, 8, 8, 8, 8, 8, 8, 8, 8, 8, 8, 8, 8, 8, 8, 8, 8, 8, 8, 8, 8, 8, 8, 8, 8, 8, 8, 8, 8, 8, 8, 8, 8, 8, 8, 8, 8, 8, 8, 8, 8, 8, 8, 8, 8, 8, 8, 8, 8, 8, 8, 8, 8, 8, 8, 8, 8, 8, 8, 8, 8, 8, 8, 8, 8, 8, 8, 8, 8, 8]) v21) fun v22 =>
    B.pv (V.toInt .i64 v22) fun v23 =>
    B.pv (V.bin .add v2 v23) fun v24 =>
    Q v24 h
@[simp] def math_bits_Len64.k2 (C : CSem) (N : Nat → Nat) (Q : AVal → AHeap → Prop) (v0 v2 : AVal) (h : AHeap) : Prop :=
  B.pv (V.bin .geq v0 (.int .u64 256)) fun v14 =>
    B.cond v14
    (B.pv (V.bin .shr v0 (.int .u64 8)) fun v16 =>
    B.pv (V.bin .add v2 (.int .i64 8)) fun v18 =>
    math_bits_Len64.k1 C N Q v16 v18 h)
    (math_bits_Len64.k1 C N Q v0 v2 h)
@[simp] def math_bits_Len64.k3 (C : CSem) (N : Nat → Nat) (Q : AVal → AHeap → Prop) (v0 v2 : AVal) (h : AHeap) : Prop :=
  B.pv (V.bin .geq v0 (.int .u64 65536)) fun v8 =>
    B.cond v8
    (B.pv (V.bin .shr v0 (.int .u64 16)) fun v10 =>
    B.pv (V.bin .add v2 (.int .i64 16)) fun v12 =>
    math_bits_Len64.k2 C N Q v10 v12 h)
    (math_bits_Len64.k2 C N Q v0 v2 h)
@[simp] def math_bits_Len64.k4 (C : CSem) (N : Nat → Nat) (Q : AVal → AHeap → Prop) (v0 v2 : AVal) (h : AHeap) : Prop :=
  B.pv (V.bin .geq v0 (.int .u64 4294967296)) fun v4 =>
    B.cond v4
    (B.pv (V.bin .shr v0 (.int .u64 32)) fun v6 =>
    math_bits_Len64.k3 C N Q v6 (.int .i64 32) h)
    (math_bits_Len64.k3 C N Q v0 v2 h)
/-- math/bits.Len64 -/
@[simp] def math_bits_Len64.cps (C : CSem) (N : Nat → Nat) (v0 : AVal) (h : AHeap) (Q : AVal → AHeap → Prop) : Prop :=
  math_bits_Len64.k4 C N Q v0 (.int .i64 0) h
def math_bits_Len64.Imp (C : CSem) (N : Nat → Nat) : Prop := ∀ (v0 : AVal) (h : AHeap) (Q : AVal → AHeap → Prop), math_bits_Len64.cps C N v0 h (dn Q) → C (N 305) [v0] h Q
end Go.Ab

/- What is told: residuals: what each function does in the abstract memory, printed by a program of mine. Definitions alone. -/
set_option linter.unusedVariables false
namespace Go.Ab
@[simp] def slices_CloneG.cps (C : CSem) (E : ElOps) (v0 : AVal) (h : AHeap) (Q : AVal → AHeap → Prop) : Prop :=
  B.pv (V.eqSl .eql v0 .nils) fun v4 =>
    B.cond v4
    (Q .nils h)
    (B.appW h E.es E.bytes .sz v0 fun v7 h =>
    Q v7 h)
@[simp] def slices_insertionSortCmpFuncG.k1 (C : CSem) (E : ElOps) (Q : AVal → AHeap → Prop) (Y1 : List AVal → AHeap → Prop) (Y2 : List AVal → AHeap → Prop) (v0 v1 v2 v3 v8 v9 : AVal) (h : AHeap) : Prop :=
  B.pv (V.bin .gtr v9 v1) fun v20 =>
    B.gd h v20 true (fun K => K v3 h) fun v22 h =>
    B.gd h v20 true (fun K => K v0 h) fun v23 h =>
    B.gd h v20 true (fun K => K v9 h) fun v24 h =>
    B.gd h v20 true (fun K => B.pv (V.idxS E.es v23 v24) fun v => K v h) fun v25 h =>
    B.gd h v20 true (fun K => E.ld h v25 fun v => K v h) fun v26 h =>
    B.gd h v20 true (fun K => K v0 h) fun v27 h =>
    B.gd h v20 true (fun K => K v9 h) fun v28 h =>
    B.gd h v20 true (fun K => B.pv (V.bin .sub v28 (.int .i64 1)) fun v => K v h) fun v29 h =>
    B.gd h v20 true (fun K => B.pv (V.idxS E.es v27 v29) fun v => K v h) fun v30 h =>
    B.gd h v20 true (fun K => E.ld h v30 fun v => K v h) fun v31 h =>
    B.gd h v20 true (fun K => B.callv h C v22 [v26, v31] K) fun v32 h =>
    B.gd h v20 true (fun K => B.pv (V.bin .lss v32 (.int .i64 0)) fun v => K v h) fun v33 h =>
    B.pick v20 v33 (.bool false) fun v34 =>
    B.cond v34
    (B.pv (V.bin .sub v9 (.int .i64 1)) fun v41 =>
    B.pv (V.bin .sub v9 (.int .i64 1)) fun v44 =>
    B.pv (V.idxS E.es v0 v44) fun v45 =>
    E.ld h v45 fun v46 =>
    B.pv (V.idxS E.es v0 v9) fun v49 =>
    E.ld h v49 fun v50 =>
    B.pv (V.idxS E.es v0 v9) fun v51 =>
    E.st h v51 v46 fun h =>
    B.pv (V.idxS E.es v0 v41) fun v52 =>
    E.st h v52 v50 fun h =>
    B.pv (V.bin .sub v9 (.int .i64 1)) fun v36 =>
    Y2 [v36] h)
    (B.pv (V.bin .add v8 (.int .i64 1)) fun v16 =>
    Y1 [v16] h)
@[simp] def slices_insertionSortCmpFuncG.l2 (C : CSem) (E : ElOps) (Q : AVal → AHeap → Prop) (Y1 : List AVal → AHeap → Prop) (v0 v1 v2 v3 v8 : AVal) : List AVal → AHeap → (List AVal → AHeap → Prop) → Prop
  | [v9], h, Y2 => slices_insertionSortCmpFuncG.k1 C E Q Y1 Y2 v0 v1 v2 v3 v8 v9 h
  | _, _, _ => False
@[simp] def slices_insertionSortCmpFuncG.l3 (C : CSem) (E : ElOps) (Q : AVal → AHeap → Prop) (v0 v1 v2 v3 : AVal) : List AVal → AHeap → (List AVal → AHeap → Prop) → Prop
  | [v8], h, Y1 => B.pv (V.bin .lss v8 v2) fun v14 =>
    B.cond v14
    (LoopR (slices_insertionSortCmpFuncG.l2 C E Q Y1 v0 v1 v2 v3 v8) [v8] h)
    (Q (.tup []) h)
  | _, _, _ => False
@[simp] def slices_insertionSortCmpFuncG.cps (C : CSem) (E : ElOps) (v0 v1 v2 v3 : AVal) (h : AHeap) (Q : AVal → AHeap → Prop) : Prop :=
  B.pv (V.bin .add v1 (.int .i64 1)) fun v11 =>
    LoopR (slices_insertionSortCmpFuncG.l3 C E Q v0 v1 v2 v3) [v11] h
@[simp] def slices_SortFuncG.k1 (C : CSem) (E : ElOps) (f1 f2 : Nat) (Q : AVal → AHeap → Prop) (v0 v1 : AVal) (h : AHeap) : Prop :=
  B.pv (V.lenSl v0) fun v6 =>
    B.pv (V.toInt .u64 v6) fun v10 =>
    B.call C f1 [v10] h fun v11 h =>
    B.call C f2 [v0, (.int .i64 0), v6, v11, v1] h fun v13 h =>
    Q (.tup []) h
@[simp] def slices_SortFuncG.cps (C : CSem) (E : ElOps) (f1 f2 : Nat) (v0 v1 : AVal) (h : AHeap) (Q : AVal → AHeap → Prop) : Prop :=
  slices_SortFuncG.k1 C E f1 f2 Q v0 v1 h
@[simp] def slices_pdqsortCmpFuncG.k1 (C : CSem) (E : ElOps) (f1 f2 f3 f4 f5 f6 f7 f8 f9 : Nat) (Q : AVal → AHeap → Prop) (Y1 : List AVal → AHeap → Prop) (v0 v1 v2 v3 v4 v10 v11 v12 v13 : AVal) (h : AHeap) : Prop :=
  B.pv (V.bin .gtr v1 (.int .i64 0)) fun v82 =>
    B.gd h v82 true (fun K => K v4 h) fun v84 h =>
    B.gd h v82 true (fun K => K v0 h) fun v85 h =>
    B.gd h v82 true (fun K => K v1 h) fun v86 h =>
    B.gd h v82 true (fun K => B.pv (V.bin .sub v86 (.int .i64 1)) fun v => K v h) fun v87 h =>
    B.gd h v82 true (fun K => B.pv (V.idxS E.es v85 v87) fun v => K v h) fun v88 h =>
    B.gd h v82 true (fun K => E.ld h v88 fun v => K v h) fun v89 h =>
    B.gd h v82 true (fun K => K v0 h) fun v90 h =>
    B.gd h v82 true (fun K => K v13 h) fun v91 h =>
    B.gd h v82 true (fun K => B.pv (V.idxS E.es v90 v91) fun v => K v h) fun v92 h =>
    B.gd h v82 true (fun K => E.ld h v92 fun v => K v h) fun v93 h =>
    B.gd h v82 true (fun K => B.callv h C v84 [v89, v93] K) fun v94 h =>
    B.gd h v82 true (fun K => B.pv (V.bin .lss v94 (.int .i64 0)) fun v => K v h) fun v95 h =>
    B.gd h v82 true (fun K => B.pv (V.un .not v95) fun v => K v h) fun v96 h =>
    B.pick v82 v96 (.bool false) fun v97 =>
    B.cond v97
    (B.call C f1 [v0, v1, v2, v13, v4] h fun v103 h =>
    Y1 [v103, v2, v3, v10, v11] h)
    (B.call C f2 [v0, v1, v2, v13, v4] h fun v111 h =>
    B.pv (V.ext 0 v111) fun v112 =>
    B.pv (V.ext 1 v111) fun v113 =>
    B.pv (V.bin .sub v112 v1) fun v117 =>
    B.pv (V.bin .sub v2 v112) fun v120 =>
    B.pv (V.bin .quo v12 (.int .i64 8)) fun v122 =>
    B.pv (V.bin .lss v117 v120) fun v125 =>
    B.cond v125
    (B.pv (V.bin .geq v117 v122) fun v128 =>
    B.call C f3 [v0, v1, v112, v3, v4] h fun v134 h =>
    B.pv (V.bin .add v112 (.int .i64 1)) fun v136 =>
    Y1 [v136, v2, v3, v128, v113] h)
    (B.pv (V.bin .geq v120 v122) fun v139 =>
    B.pv (V.bin .add v112 (.int .i64 1)) fun v142 =>
    B.call C f3 [v0, v142, v2, v3, v4] h fun v146 h =>
    Y1 [v1, v112, v3, v139, v113] h))
@[simp] def slices_pdqsortCmpFuncG.k2 (C : CSem) (E : ElOps) (f1 f2 f3 f4 f5 f6 f7 f8 f9 : Nat) (Q : AVal → AHeap → Prop) (Y1 : List AVal → AHeap → Prop) (v0 v1 v2 v3 v4 v10 v11 v12 v13 v14 : AVal) (h : AHeap) : Prop :=
  B.gd h v10 true (fun K => K v11 h) fun v70 h =>
    B.pick v10 v70 (.bool false) fun v71 =>
    B.gd h v71 true (fun K => K v14 h) fun v73 h =>
    B.gd h v71 true (fun K => B.pv (V.bin .eql v73 (.int .i64 1)) fun v => K v h) fun v74 h =>
    B.pick v71 v74 (.bool false) fun v75 =>
    B.cond v75
    (B.call C f4 [v0, v1, v2, v4] h fun v80 h =>
    B.cond v80
    (Q (.tup []) h)
    (slices_pdqsortCmpFuncG.k1 C E f1 f2 f3 f4 f5 f6 f7 f8 f9 Q Y1 v0 v1 v2 v3 v4 v10 v11 v12 v13 h))
    (slices_pdqsortCmpFuncG.k1 C E f1 f2 f3 f4 f5 f6 f7 f8 f9 Q Y1 v0 v1 v2 v3 v4 v10 v11 v12 v13 h)
@[simp] def slices_pdqsortCmpFuncG.k3 (C : CSem) (E : ElOps) (f1 f2 f3 f4 f5 f6 f7 f8 f9 : Nat) (Q : AVal → AHeap → Prop) (Y1 : List AVal → AHeap → Prop) (v0 v1 v2 v3 v4 v10 v11 v12 v13 v14 : AVal) (h : AHeap) : Prop :=
  B.pv (V.bin .eql v14 (.int .i64 2)) fun v56 =>
    B.cond v56
    (B.call C f5 [v0, v1, v2, v4] h fun v61 h =>
    B.pv (V.bin .sub v2 (.int .i64 1)) fun v63 =>
    B.pv (V.bin .sub v13 v1) fun v66 =>
    B.pv (V.bin .sub v63 v66) fun v67 =>
    slices_pdqsortCmpFuncG.k2 C E f1 f2 f3 f4 f5 f6 f7 f8 f9 Q Y1 v0 v1 v2 v3 v4 v10 v11 v12 v67 (.int .i64 1) h)
    (slices_pdqsortCmpFuncG.k2 C E f1 f2 f3 f4 f5 f6 f7 f8 f9 Q Y1 v0 v1 v2 v3 v4 v10 v11 v12 v13 v14 h)
@[simp] def slices_pdqsortCmpFuncG.k4 (C : CSem) (E : ElOps) (f1 f2 f3 f4 f5 f6 f7 f8 f9 : Nat) (Q : AVal → AHeap → Prop) (Y1 : List AVal → AHeap → Prop) (v0 v1 v2 v3 v4 v10 v11 v12 : AVal) (h : AHeap) : Prop :=
  B.call C f6 [v0, v1, v2, v4] h fun v52 h =>
    B.pv (V.ext 0 v52) fun v53 =>
    B.pv (V.ext 1 v52) fun v54 =>
    slices_pdqsortCmpFuncG.k3 C E f1 f2 f3 f4 f5 f6 f7 f8 f9 Q Y1 v0 v1 v2 v3 v4 v10 v11 v12 v53 v54 h
@[simp] def slices_pdqsortCmpFuncG.k5 (C : CSem) (E : ElOps) (f1 f2 f3 f4 f5 f6 f7 f8 f9 : Nat) (Q : AVal → AHeap → Prop) (Y1 : List AVal → AHeap → Prop) (v0 v1 v2 v3 v4 v10 v11 v12 : AVal) (h : AHeap) : Prop :=
  B.pv (V.un .not v10) fun v39 =>
    B.cond v39
    (B.call C f7 [v0, v1, v2, v4] h fun v44 h =>
    B.pv (V.bin .sub v3 (.int .i64 1)) fun v46 =>
    slices_pdqsortCmpFuncG.k4 C E f1 f2 f3 f4 f5 f6 f7 f8 f9 Q Y1 v0 v1 v2 v46 v4 v10 v11 v12 h)
    (slices_pdqsortCmpFuncG.k4 C E f1 f2 f3 f4 f5 f6 f7 f8 f9 Q Y1 v0 v1 v2 v3 v4 v10 v11 v12 h)
@[simp] def slices_pdqsortCmpFuncG.k6 (C : CSem) (E : ElOps) (f1 f2 f3 f4 f5 f6 f7 f8 f9 : Nat) (Q : AVal → AHeap → Prop) (Y1 : List AVal → AHeap → Prop) (v0 v1 v2 v3 v4 v10 v11 v12 : AVal) (h : AHeap) : Prop :=
  B.pv (V.bin .eql v3 (.int .i64 0)) fun v32 =>
    B.cond v32
    (B.call C f8 [v0, v1, v2, v4] h fun v37 h =>
    Q (.tup []) h)
    (slices_pdqsortCmpFuncG.k5 C E f1 f2 f3 f4 f5 f6 f7 f8 f9 Q Y1 v0 v1 v2 v3 v4 v10 v11 v12 h)
@[simp] def slices_pdqsortCmpFuncG.k7 (C : CSem) (E : ElOps) (f1 f2 f3 f4 f5 f6 f7 f8 f9 : Nat) (Q : AVal → AHeap → Prop) (Y1 : List AVal → AHeap → Prop) (v0 v1 v2 v3 v4 v10 v11 v12 : AVal) (h : AHeap) : Prop :=
  B.pv (V.bin .leq v12 (.int .i64 12)) fun v25 =>
    B.cond v25
    (B.call C f9 [v0, v1, v2, v4] h fun v30 h =>
    Q (.tup []) h)
    (slices_pdqsortCmpFuncG.k6 C E f1 f2 f3 f4 f5 f6 f7 f8 f9 Q Y1 v0 v1 v2 v3 v4 v10 v11 v12 h)
@[simp] def slices_pdqsortCmpFuncG.l8 (C : CSem) (E : ElOps) (f1 f2 f3 f4 f5 f6 f7 f8 f9 : Nat) (Q : AVal → AHeap → Prop) (v0 v4 : AVal) : List AVal → AHeap → (List AVal → AHeap → Prop) → Prop
  | [v1, v2, v3, v10, v11], h, Y1 => B.pv (V.bin .sub v2 v1) fun v23 =>
    slices_pdqsortCmpFuncG.k7 C E f1 f2 f3 f4 f5 f6 f7 f8 f9 Q Y1 v0 v1 v2 v3 v4 v10 v11 v23 h
  | _, _, _ => False
@[simp] def slices_pdqsortCmpFuncG.cps (C : CSem) (E : ElOps) (f1 f2 f3 f4 f5 f6 f7 f8 f9 : Nat) (v0 v1 v2 v3 v4 : AVal) (h : AHeap) (Q : AVal → AHeap → Prop) : Prop :=
  LoopR (slices_pdqsortCmpFuncG.l8 C E f1 f2 f3 f4 f5 f6 f7 f8 f9 Q v0 v4) [v1, v2, v3, (.bool true), (.bool true)] h
@[simp] def slices_heapSortCmpFuncG.k1 (C : CSem) (E : ElOps) (f1 : Nat) (Q : AVal → AHeap → Prop) (Y1 : List AVal → AHeap → Prop) (v0 v3 v8 v9 v12 : AVal) (h : AHeap) : Prop :=
  B.pv (V.bin .geq v12 (.int .i64 0)) fun v33 =>
    B.cond v33
    (B.pv (V.bin .add v8 v12) fun v41 =>
    B.pv (V.bin .add v8 v12) fun v45 =>
    B.pv (V.idxS E.es v0 v45) fun v46 =>
    E.ld h v46 fun v47 =>
    B.pv (V.idxS E.es v0 v8) fun v50 =>
    E.ld h v50 fun v51 =>
    B.pv (V.idxS E.es v0 v8) fun v52 =>
    E.st h v52 v47 fun h =>
    B.pv (V.idxS E.es v0 v41) fun v53 =>
    E.st h v53 v51 fun h =>
    B.call C f1 [v0, v9, v12, v8, v3] h fun v59 h =>
    B.pv (V.bin .sub v12 (.int .i64 1)) fun v35 =>
    Y1 [v35] h)
    (Q (.tup []) h)
@[simp] def slices_heapSortCmpFuncG.l2 (C : CSem) (E : ElOps) (f1 : Nat) (Q : AVal → AHeap → Prop) (v0 v3 v8 v9 : AVal) : List AVal → AHeap → (List AVal → AHeap → Prop) → Prop
  | [v12], h, Y1 => slices_heapSortCmpFuncG.k1 C E f1 Q Y1 v0 v3 v8 v9 v12 h
  | _, _, _ => False
@[simp] def slices_heapSortCmpFuncG.k3 (C : CSem) (E : ElOps) (f1 : Nat) (Q : AVal → AHeap → Prop) (Y2 : List AVal → AHeap → Prop) (v0 v3 v8 v9 v10 v11 : AVal) (h : AHeap) : Prop :=
  B.pv (V.bin .geq v11 (.int .i64 0)) fun v21 =>
    B.cond v21
    (B.call C f1 [v0, v11, v10, v8, v3] h fun v29 h =>
    B.pv (V.bin .sub v11 (.int .i64 1)) fun v23 =>
    Y2 [v23] h)
    (B.pv (V.bin .sub v10 (.int .i64 1)) fun v31 =>
    LoopR (slices_heapSortCmpFuncG.l2 C E f1 Q v0 v3 v8 v9) [v31] h)
@[simp] def slices_heapSortCmpFuncG.l4 (C : CSem) (E : ElOps) (f1 : Nat) (Q : AVal → AHeap → Prop) (v0 v3 v8 v9 v10 : AVal) : List AVal → AHeap → (List AVal → AHeap → Prop) → Prop
  | [v11], h, Y2 => slices_heapSortCmpFuncG.k3 C E f1 Q Y2 v0 v3 v8 v9 v10 v11 h
  | _, _, _ => False
@[simp] def slices_heapSortCmpFuncG.k5 (C : CSem) (E : ElOps) (f1 : Nat) (Q : AVal → AHeap → Prop) (v0 v3 v8 v9 v10 : AVal) (h : AHeap) : Prop :=
  B.pv (V.bin .sub v10 (.int .i64 1)) fun v18 =>
    B.pv (V.bin .quo v18 (.int .i64 2)) fun v19 =>
    LoopR (slices_heapSortCmpFuncG.l4 C E f1 Q v0 v3 v8 v9 v10) [v19] h
@[simp] def slices_heapSortCmpFuncG.cps (C : CSem) (E : ElOps) (f1 : Nat) (v0 v1 v2 v3 : AVal) (h : AHeap) (Q : AVal → AHeap → Prop) : Prop :=
  B.pv (V.bin .sub v2 v1) fun v16 =>
    slices_heapSortCmpFuncG.k5 C E f1 Q v0 v3 v1 (.int .i64 0) v16 h
@[simp] def slices_breakPatternsCmpFuncG.k1 (C : CSem) (E : ElOps) (f1 f2 : Nat) (Q : AVal → AHeap → Prop) (Y1 : List AVal → AHeap → Prop) (v0 v1 v8 v9 v10 v11 v12 : AVal) (h : AHeap) : Prop :=
  B.pv (V.bin .add v1 v12) fun v54 =>
    B.pv (V.bin .add v1 v12) fun v58 =>
    B.pv (V.idxS E.es v0 v58) fun v59 =>
    E.ld h v59 fun v60 =>
    B.pv (V.idxS E.es v0 v11) fun v63 =>
    E.ld h v63 fun v64 =>
    B.pv (V.idxS E.es v0 v11) fun v65 =>
    E.st h v65 v60 fun h =>
    B.pv (V.idxS E.es v0 v54) fun v66 =>
    E.st h v66 v64 fun h =>
    B.pv (V.bin .add v11 (.int .i64 1)) fun v37 =>
    Y1 [v37] h
@[simp] def slices_breakPatternsCmpFuncG.k2 (C : CSem) (E : ElOps) (f1 f2 : Nat) (Q : AVal → AHeap → Prop) (Y1 : List AVal → AHeap → Prop) (v0 v1 v8 v9 v10 v11 v12 : AVal) (h : AHeap) : Prop :=
  B.pv (V.bin .geq v12 v8) fun v45 =>
    B.cond v45
    (B.pv (V.bin .sub v12 v8) fun v48 =>
    slices_breakPatternsCmpFuncG.k1 C E f1 f2 Q Y1 v0 v1 v8 v9 v10 v11 v48 h)
    (slices_breakPatternsCmpFuncG.k1 C E f1 f2 Q Y1 v0 v1 v8 v9 v10 v11 v12 h)
@[simp] def slices_breakPatternsCmpFuncG.k3 (C : CSem) (E : ElOps) (f1 f2 : Nat) (Q : AVal → AHeap → Prop) (Y1 : List AVal → AHeap → Prop) (v0 v1 v8 v9 v10 v11 : AVal) (h : AHeap) : Prop :=
  B.call C f1 [v9] h fun v38 h =>
    B.pv (V.bin .sub v10 (.int .u64 1)) fun v40 =>
    B.pv (V.bin .and v38 v40) fun v41 =>
    B.pv (V.toInt .i64 v41) fun v42 =>
    slices_breakPatternsCmpFuncG.k2 C E f1 f2 Q Y1 v0 v1 v8 v9 v10 v11 v42 h
@[simp] def slices_breakPatternsCmpFuncG.k4 (C : CSem) (E : ElOps) (f1 f2 : Nat) (Q : AVal → AHeap → Prop) (Y1 : List AVal → AHeap → Prop) (v0 v1 v8 v9 v10 v11 : AVal) (h : AHeap) : Prop :=
  B.pv (V.bin .quo v8 (.int .i64 4)) fun v31 =>
    B.pv (V.bin .mul v31 (.int .i64 2)) fun v32 =>
    B.pv (V.bin .add v1 v32) fun v33 =>
    B.pv (V.bin .add v33 (.int .i64 1)) fun v34 =>
    B.pv (V.bin .leq v11 v34) fun v35 =>
    B.cond v35
    (slices_breakPatternsCmpFuncG.k3 C E f1 f2 Q Y1 v0 v1 v8 v9 v10 v11 h)
    (Q (.tup []) h)
@[simp] def slices_breakPatternsCmpFuncG.l5 (C : CSem) (E : ElOps) (f1 f2 : Nat) (Q : AVal → AHeap → Prop) (v0 v1 v8 v9 v10 : AVal) : List AVal → AHeap → (List AVal → AHeap → Prop) → Prop
  | [v11], h, Y1 => slices_breakPatternsCmpFuncG.k4 C E f1 f2 Q Y1 v0 v1 v8 v9 v10 v11 h
  | _, _, _ => False
@[simp] def slices_breakPatternsCmpFuncG.k6 (C : CSem) (E : ElOps) (f1 f2 : Nat) (Q : AVal → AHeap → Prop) (v0 v1 v8 v9 v10 : AVal) (h : AHeap) : Prop :=
  B.pv (V.bin .quo v8 (.int .i64 4)) fun v24 =>
    B.pv (V.bin .mul v24 (.int .i64 2)) fun v25 =>
    B.pv (V.bin .add v1 v25) fun v26 =>
    B.pv (V.bin .sub v26 (.int .i64 1)) fun v27 =>
    LoopR (slices_breakPatternsCmpFuncG.l5 C E f1 f2 Q v0 v1 v8 v9 v10) [v27] h
@[simp] def slices_breakPatternsCmpFuncG.k7 (C : CSem) (E : ElOps) (f1 f2 : Nat) (Q : AVal → AHeap → Prop) (v0 v1 v8 : AVal) (h : AHeap) : Prop :=
  B.pv (V.toInt .u64 v8) fun v19 =>
    B.newO h (some [.int .u64 0]) fun i9 h =>
    B.st h (.ptr i9 0 0) v19 fun h =>
    B.call C f2 [v8] h fun v21 h =>
    slices_breakPatternsCmpFuncG.k6 C E f1 f2 Q v0 v1 v8 (.ptr i9 0 0) v21 h
@[simp] def slices_breakPatternsCmpFuncG.k8 (C : CSem) (E : ElOps) (f1 f2 : Nat) (Q : AVal → AHeap → Prop) (v0 v1 v2 : AVal) (h : AHeap) : Prop :=
  B.pv (V.bin .sub v2 v1) fun v15 =>
    B.pv (V.bin .geq v15 (.int .i64 8)) fun v17 =>
    B.cond v17 (slices_breakPatternsCmpFuncG.k7 C E f1 f2 Q v0 v1 v15 h) (Q (.tup []) h)
@[simp] def slices_breakPatternsCmpFuncG.cps (C : CSem) (E : ElOps) (f1 f2 : Nat) (v0 v1 v2 v3 : AVal) (h : AHeap) (Q : AVal → AHeap → Prop) : Prop :=
  slices_breakPatternsCmpFuncG.k8 C E f1 f2 Q v0 v1 v2 h
@[simp] def slices_choosePivotCmpFuncG.k1 (C : CSem) (E : ElOps) (f1 f2 : Nat) (Q : AVal → AHeap → Prop) (v11 v13 : AVal) (h : AHeap) : Prop :=
  B.ld h v11 fun v55 =>
    B.pv (V.bin .eql v55 (.int .i64 0)) fun v58 =>
    B.cond v58
    (Q (.tup [v13, (.int .i64 1)]) h)
    (B.pv (V.bin .eql v55 (.int .i64 12)) fun v61 =>
    B.cond v61
    (Q (.tup [v13, (.int .i64 2)]) h)
    (Q (.tup [v13, (.int .i64 0)]) h))
@[simp] def slices_choosePivotCmpFuncG.k2 (C : CSem) (E : ElOps) (f1 f2 : Nat) (Q : AVal → AHeap → Prop) (v0 v3 v10 v11 v12 v13 v14 : AVal) (h : AHeap) : Prop :=
  B.pv (V.bin .geq v10 (.int .i64 50)) fun v36 =>
    B.cond v36
    (B.call C f2 [v0, v12, v11, v3] h fun v40 h =>
    B.call C f2 [v0, v13, v11, v3] h fun v44 h =>
    B.call C f2 [v0, v14, v11, v3] h fun v48 h =>
    B.call C f1 [v0, v40, v44, v48, v11, v3] h fun v54 h =>
    slices_choosePivotCmpFuncG.k1 C E f1 f2 Q v11 v54 h)
    (B.call C f1 [v0, v12, v13, v14, v11, v3] h fun v54 h =>
    slices_choosePivotCmpFuncG.k1 C E f1 f2 Q v11 v54 h)
@[simp] def slices_choosePivotCmpFuncG.k3 (C : CSem) (E : ElOps) (f1 f2 : Nat) (Q : AVal → AHeap → Prop) (v0 v3 v10 v11 v12 v13 v14 : AVal) (h : AHeap) : Prop :=
  B.pv (V.bin .geq v10 (.int .i64 8)) fun v34 =>
    B.cond v34 (slices_choosePivotCmpFuncG.k2 C E f1 f2 Q v0 v3 v10 v11 v12 v13 v14 h) (slices_choosePivotCmpFuncG.k1 C E f1 f2 Q v11 v13 h)
@[simp] def slices_choosePivotCmpFuncG.k4 (C : CSem) (E : ElOps) (f1 f2 : Nat) (Q : AVal → AHeap → Prop) (v0 v1 v3 v10 v11 v12 v13 : AVal) (h : AHeap) : Prop :=
  B.pv (V.bin .quo v10 (.int .i64 4)) fun v30 =>
    B.pv (V.bin .mul v30 (.int .i64 3)) fun v31 =>
    B.pv (V.bin .add v1 v31) fun v32 =>
    slices_choosePivotCmpFuncG.k3 C E f1 f2 Q v0 v3 v10 v11 v12 v13 v32 h
@[simp] def slices_choosePivotCmpFuncG.k5 (C : CSem) (E : ElOps) (f1 f2 : Nat) (Q : AVal → AHeap → Prop) (v0 v1 v3 v10 v11 v12 : AVal) (h : AHeap) : Prop :=
  B.pv (V.bin .quo v10 (.int .i64 4)) fun v25 =>
    B.pv (V.bin .mul v25 (.int .i64 2)) fun v26 =>
    B.pv (V.bin .add v1 v26) fun v27 =>
    slices_choosePivotCmpFuncG.k4 C E f1 f2 Q v0 v1 v3 v10 v11 v12 v27 h
@[simp] def slices_choosePivotCmpFuncG.k6 (C : CSem) (E : ElOps) (f1 f2 : Nat) (Q : AVal → AHeap → Prop) (v0 v1 v3 v10 v11 : AVal) (h : AHeap) : Prop :=
  B.pv (V.bin .quo v10 (.int .i64 4)) fun v20 =>
    B.pv (V.bin .mul v20 (.int .i64 1)) fun v21 =>
    B.pv (V.bin .add v1 v21) fun v22 =>
    slices_choosePivotCmpFuncG.k5 C E f1 f2 Q v0 v1 v3 v10 v11 v22 h
@[simp] def slices_choosePivotCmpFuncG.cps (C : CSem) (E : ElOps) (f1 f2 : Nat) (v0 v1 v2 v3 : AVal) (h : AHeap) (Q : AVal → AHeap → Prop) : Prop :=
  B.pv (V.bin .sub v2 v1) fun v17 =>
    B.newO h (some [.int .i64 0]) fun i11 h =>
    slices_choosePivotCmpFuncG.k6 C E f1 f2 Q v0 v1 v3 v17 (.ptr i11 0 0) h
@[simp] def slices_reverseRangeCmpFuncG.k1 (C : CSem) (E : ElOps) (Q : AVal → AHeap → Prop) (Y1 : List AVal → AHeap → Prop) (v0 v8 v9 : AVal) (h : AHeap) : Prop :=
  B.pv (V.bin .lss v8 v9) fun v15 =>
    B.cond v15
    (B.pv (V.idxS E.es v0 v9) fun v22 =>
    E.ld h v22 fun v23 =>
    B.pv (V.idxS E.es v0 v8) fun v26 =>
    E.ld h v26 fun v27 =>
    B.pv (V.idxS E.es v0 v8) fun v28 =>
    E.st h v28 v23 fun h =>
    B.pv (V.idxS E.es v0 v9) fun v29 =>
    E.st h v29 v27 fun h =>
    B.pv (V.bin .add v8 (.int .i64 1)) fun v31 =>
    B.pv (V.bin .sub v9 (.int .i64 1)) fun v33 =>
    Y1 [v31, v33] h)
    (Q (.tup []) h)
@[simp] def slices_reverseRangeCmpFuncG.l2 (C : CSem) (E : ElOps) (Q : AVal → AHeap → Prop) (v0 : AVal) : List AVal → AHeap → (List AVal → AHeap → Prop) → Prop
  | [v8, v9], h, Y1 => slices_reverseRangeCmpFuncG.k1 C E Q Y1 v0 v8 v9 h
  | _, _, _ => False
@[simp] def slices_reverseRangeCmpFuncG.cps (C : CSem) (E : ElOps) (v0 v1 v2 v3 : AVal) (h : AHeap) (Q : AVal → AHeap → Prop) : Prop :=
  B.pv (V.bin .sub v2 (.int .i64 1)) fun v12 =>
    LoopR (slices_reverseRangeCmpFuncG.l2 C E Q v0) [v1, v12] h
@[simp] def slices_partialInsertionSortCmpFuncG.k1 (C : CSem) (E : ElOps) (Q : AVal → AHeap → Prop) (Y1 : List AVal → AHeap → Prop) (Y2 : List AVal → AHeap → Prop) (v0 v1 v2 v3 v9 v10 v12 : AVal) (h : AHeap) : Prop :=
  B.pv (V.bin .lss v12 v2) fun v109 =>
    B.cond v109
    (B.pv (V.idxS E.es v0 v12) fun v115 =>
    E.ld h v115 fun v116 =>
    B.pv (V.bin .sub v12 (.int .i64 1)) fun v119 =>
    B.pv (V.idxS E.es v0 v119) fun v120 =>
    E.ld h v120 fun v121 =>
    B.callv h C v3 [v116, v121] fun v122 h =>
    B.pv (V.bin .lss v122 (.int .i64 0)) fun v123 =>
    B.pv (V.un .not v123) fun v124 =>
    B.cond v124
    (B.pv (V.bin .add v10 (.int .i64 1)) fun v18 =>
    Y1 [v9, v18] h)
    (B.pv (V.bin .sub v12 (.int .i64 1)) fun v129 =>
    B.pv (V.bin .sub v12 (.int .i64 1)) fun v132 =>
    B.pv (V.idxS E.es v0 v132) fun v133 =>
    E.ld h v133 fun v134 =>
    B.pv (V.idxS E.es v0 v12) fun v137 =>
    E.ld h v137 fun v138 =>
    B.pv (V.idxS E.es v0 v12) fun v139 =>
    E.st h v139 v134 fun h =>
    B.pv (V.idxS E.es v0 v129) fun v140 =>
    E.st h v140 v138 fun h =>
    B.pv (V.bin .add v12 (.int .i64 1)) fun v111 =>
    Y2 [v111] h))
    (B.pv (V.bin .add v10 (.int .i64 1)) fun v18 =>
    Y1 [v9, v18] h)
@[simp] def slices_partialInsertionSortCmpFuncG.l2 (C : CSem) (E : ElOps) (Q : AVal → AHeap → Prop) (Y1 : List AVal → AHeap → Prop) (v0 v1 v2 v3 v9 v10 : AVal) : List AVal → AHeap → (List AVal → AHeap → Prop) → Prop
  | [v12], h, Y2 => slices_partialInsertionSortCmpFuncG.k1 C E Q Y1 Y2 v0 v1 v2 v3 v9 v10 v12 h
  | _, _, _ => False
@[simp] def slices_partialInsertionSortCmpFuncG.k3 (C : CSem) (E : ElOps) (Q : AVal → AHeap → Prop) (Y1 : List AVal → AHeap → Prop) (v0 v1 v2 v3 v9 v10 : AVal) (h : AHeap) : Prop :=
  B.pv (V.bin .sub v2 v9) fun v103 =>
    B.pv (V.bin .geq v103 (.int .i64 2)) fun v104 =>
    B.cond v104 (B.pv (V.bin .add v9 (.int .i64 1)) fun v106 =>
    LoopR (slices_partialInsertionSortCmpFuncG.l2 C E Q Y1 v0 v1 v2 v3 v9 v10) [v106] h) (B.pv (V.bin .add v10 (.int .i64 1)) fun v18 =>
    Y1 [v9, v18] h)
@[simp] def slices_partialInsertionSortCmpFuncG.k4 (C : CSem) (E : ElOps) (Q : AVal → AHeap → Prop) (Y1 : List AVal → AHeap → Prop) (Y3 : List AVal → AHeap → Prop) (v0 v1 v2 v3 v9 v10 v11 : AVal) (h : AHeap) : Prop :=
  B.pv (V.bin .geq v11 (.int .i64 1)) fun v69 =>
    B.cond v69
    (B.pv (V.idxS E.es v0 v11) fun v75 =>
    E.ld h v75 fun v76 =>
    B.pv (V.bin .sub v11 (.int .i64 1)) fun v79 =>
    B.pv (V.idxS E.es v0 v79) fun v80 =>
    E.ld h v80 fun v81 =>
    B.callv h C v3 [v76, v81] fun v82 h =>
    B.pv (V.bin .lss v82 (.int .i64 0)) fun v83 =>
    B.pv (V.un .not v83) fun v84 =>
    B.cond v84
    (slices_partialInsertionSortCmpFuncG.k3 C E Q Y1 v0 v1 v2 v3 v9 v10 h)
    (B.pv (V.bin .sub v11 (.int .i64 1)) fun v89 =>
    B.pv (V.bin .sub v11 (.int .i64 1)) fun v92 =>
    B.pv (V.idxS E.es v0 v92) fun v93 =>
    E.ld h v93 fun v94 =>
    B.pv (V.idxS E.es v0 v11) fun v97 =>
    E.ld h v97 fun v98 =>
    B.pv (V.idxS E.es v0 v11) fun v99 =>
    E.st h v99 v94 fun h =>
    B.pv (V.idxS E.es v0 v89) fun v100 =>
    E.st h v100 v98 fun h =>
    B.pv (V.bin .sub v11 (.int .i64 1)) fun v71 =>
    Y3 [v71] h))
    (slices_partialInsertionSortCmpFuncG.k3 C E Q Y1 v0 v1 v2 v3 v9 v10 h)
@[simp] def slices_partialInsertionSortCmpFuncG.l5 (C : CSem) (E : ElOps) (Q : AVal → AHeap → Prop) (Y1 : List AVal → AHeap → Prop) (v0 v1 v2 v3 v9 v10 : AVal) : List AVal → AHeap → (List AVal → AHeap → Prop) → Prop
  | [v11], h, Y3 => slices_partialInsertionSortCmpFuncG.k4 C E Q Y1 Y3 v0 v1 v2 v3 v9 v10 v11 h
  | _, _, _ => False
@[simp] def slices_partialInsertionSortCmpFuncG.k6 (C : CSem) (E : ElOps) (Q : AVal → AHeap → Prop) (Y1 : List AVal → AHeap → Prop) (v0 v1 v2 v3 v9 v10 : AVal) (h : AHeap) : Prop :=
  B.pv (V.bin .sub v9 v1) fun v64 =>
    B.pv (V.bin .geq v64 (.int .i64 2)) fun v65 =>
    B.cond v65 (B.pv (V.bin .sub v9 (.int .i64 1)) fun v67 =>
    LoopR (slices_partialInsertionSortCmpFuncG.l5 C E Q Y1 v0 v1 v2 v3 v9 v10) [v67] h) (slices_partialInsertionSortCmpFuncG.k3 C E Q Y1 v0 v1 v2 v3 v9 v10 h)
@[simp] def slices_partialInsertionSortCmpFuncG.k7 (C : CSem) (E : ElOps) (Q : AVal → AHeap → Prop) (Y1 : List AVal → AHeap → Prop) (v0 v1 v2 v3 v9 v10 : AVal) (h : AHeap) : Prop :=
  B.pv (V.bin .sub v9 (.int .i64 1)) fun v50 =>
    B.pv (V.bin .sub v9 (.int .i64 1)) fun v53 =>
    B.pv (V.idxS E.es v0 v53) fun v54 =>
    E.ld h v54 fun v55 =>
    B.pv (V.idxS E.es v0 v9) fun v58 =>
    E.ld h v58 fun v59 =>
    B.pv (V.idxS E.es v0 v9) fun v60 =>
    E.st h v60 v55 fun h =>
    B.pv (V.idxS E.es v0 v50) fun v61 =>
    E.st h v61 v59 fun h =>
    slices_partialInsertionSortCmpFuncG.k6 C E Q Y1 v0 v1 v2 v3 v9 v10 h
@[simp] def slices_partialInsertionSortCmpFuncG.k8 (C : CSem) (E : ElOps) (Q : AVal → AHeap → Prop) (Y1 : List AVal → AHeap → Prop) (v0 v1 v2 v3 v9 v10 : AVal) (h : AHeap) : Prop :=
  B.pv (V.bin .sub v2 v1) fun v44 =>
    B.pv (V.bin .lss v44 (.int .i64 50)) fun v45 =>
    B.cond v45
    (Q (.bool false) h)
    (slices_partialInsertionSortCmpFuncG.k7 C E Q Y1 v0 v1 v2 v3 v9 v10 h)
@[simp] def slices_partialInsertionSortCmpFuncG.k9 (C : CSem) (E : ElOps) (Q : AVal → AHeap → Prop) (Y1 : List AVal → AHeap → Prop) (Y4 : List AVal → AHeap → Prop) (v0 v1 v2 v3 v9 v10 : AVal) (h : AHeap) : Prop :=
  B.pv (V.bin .lss v9 v2) fun v21 =>
    B.gd h v21 true (fun K => K v3 h) fun v23 h =>
    B.gd h v21 true (fun K => K v0 h) fun v24 h =>
    B.gd h v21 true (fun K => K v9 h) fun v25 h =>
    B.gd h v21 true (fun K => B.pv (V.idxS E.es v24 v25) fun v => K v h) fun v26 h =>
    B.gd h v21 true (fun K => E.ld h v26 fun v => K v h) fun v27 h =>
    B.gd h v21 true (fun K => K v0 h) fun v28 h =>
    B.gd h v21 true (fun K => K v9 h) fun v29 h =>
    B.gd h v21 true (fun K => B.pv (V.bin .sub v29 (.int .i64 1)) fun v => K v h) fun v30 h =>
    B.gd h v21 true (fun K => B.pv (V.idxS E.es v28 v30) fun v => K v h) fun v31 h =>
    B.gd h v21 true (fun K => E.ld h v31 fun v => K v h) fun v32 h =>
    B.gd h v21 true (fun K => B.callv h C v23 [v27, v32] K) fun v33 h =>
    B.gd h v21 true (fun K => B.pv (V.bin .lss v33 (.int .i64 0)) fun v => K v h) fun v34 h =>
    B.gd h v21 true (fun K => B.pv (V.un .not v34) fun v => K v h) fun v35 h =>
    B.pick v21 v35 (.bool false) fun v36 =>
    B.cond v36
    (B.pv (V.bin .add v9 (.int .i64 1)) fun v38 =>
    Y4 [v38] h)
    (B.pv (V.bin .eql v9 v2) fun v41 =>
    B.cond v41
    (Q (.bool true) h)
    (slices_partialInsertionSortCmpFuncG.k8 C E Q Y1 v0 v1 v2 v3 v9 v10 h))
@[simp] def slices_partialInsertionSortCmpFuncG.l10 (C : CSem) (E : ElOps) (Q : AVal → AHeap → Prop) (Y1 : List AVal → AHeap → Prop) (v0 v1 v2 v3 v10 : AVal) : List AVal → AHeap → (List AVal → AHeap → Prop) → Prop
  | [v9], h, Y4 => slices_partialInsertionSortCmpFuncG.k9 C E Q Y1 Y4 v0 v1 v2 v3 v9 v10 h
  | _, _, _ => False
@[simp] def slices_partialInsertionSortCmpFuncG.k11 (C : CSem) (E : ElOps) (Q : AVal → AHeap → Prop) (Y1 : List AVal → AHeap → Prop) (v0 v1 v2 v3 v9 v10 : AVal) (h : AHeap) : Prop :=
  B.pv (V.bin .lss v10 (.int .i64 5)) fun v16 =>
    B.cond v16
    (LoopR (slices_partialInsertionSortCmpFuncG.l10 C E Q Y1 v0 v1 v2 v3 v10) [v9] h)
    (Q (.bool false) h)
@[simp] def slices_partialInsertionSortCmpFuncG.l12 (C : CSem) (E : ElOps) (Q : AVal → AHeap → Prop) (v0 v1 v2 v3 : AVal) : List AVal → AHeap → (List AVal → AHeap → Prop) → Prop
  | [v9, v10], h, Y1 => slices_partialInsertionSortCmpFuncG.k11 C E Q Y1 v0 v1 v2 v3 v9 v10 h
  | _, _, _ => False
@[simp] def slices_partialInsertionSortCmpFuncG.cps (C : CSem) (E : ElOps) (v0 v1 v2 v3 : AVal) (h : AHeap) (Q : AVal → AHeap → Prop) : Prop :=
  B.pv (V.bin .add v1 (.int .i64 1)) fun v14 =>
    LoopR (slices_partialInsertionSortCmpFuncG.l12 C E Q v0 v1 v2 v3) [v14, (.int .i64 0)] h
@[simp] def slices_partitionEqualCmpFuncG.k1 (C : CSem) (E : ElOps) (Q : AVal → AHeap → Prop) (Y1 : List AVal → AHeap → Prop) (v0 v1 v4 v11 v12 : AVal) (h : AHeap) : Prop :=
  B.pv (V.bin .gtr v11 v12) fun v70 =>
    B.cond v70
    (Q v11 h)
    (B.pv (V.idxS E.es v0 v12) fun v77 =>
    E.ld h v77 fun v78 =>
    B.pv (V.idxS E.es v0 v11) fun v81 =>
    E.ld h v81 fun v82 =>
    B.pv (V.idxS E.es v0 v11) fun v83 =>
    E.st h v83 v78 fun h =>
    B.pv (V.idxS E.es v0 v12) fun v84 =>
    E.st h v84 v82 fun h =>
    B.pv (V.bin .add v11 (.int .i64 1)) fun v86 =>
    B.pv (V.bin .sub v12 (.int .i64 1)) fun v88 =>
    Y1 [v86, v88] h)
@[simp] def slices_partitionEqualCmpFuncG.k2 (C : CSem) (E : ElOps) (Q : AVal → AHeap → Prop) (Y1 : List AVal → AHeap → Prop) (Y2 : List AVal → AHeap → Prop) (v0 v1 v4 v11 v12 : AVal) (h : AHeap) : Prop :=
  B.pv (V.bin .leq v11 v12) fun v52 =>
    B.gd h v52 true (fun K => K v4 h) fun v54 h =>
    B.gd h v52 true (fun K => K v0 h) fun v55 h =>
    B.gd h v52 true (fun K => K v1 h) fun v56 h =>
    B.gd h v52 true (fun K => B.pv (V.idxS E.es v55 v56) fun v => K v h) fun v57 h =>
    B.gd h v52 true (fun K => E.ld h v57 fun v => K v h) fun v58 h =>
    B.gd h v52 true (fun K => K v0 h) fun v59 h =>
    B.gd h v52 true (fun K => K v12 h) fun v60 h =>
    B.gd h v52 true (fun K => B.pv (V.idxS E.es v59 v60) fun v => K v h) fun v61 h =>
    B.gd h v52 true (fun K => E.ld h v61 fun v => K v h) fun v62 h =>
    B.gd h v52 true (fun K => B.callv h C v54 [v58, v62] K) fun v63 h =>
    B.gd h v52 true (fun K => B.pv (V.bin .lss v63 (.int .i64 0)) fun v => K v h) fun v64 h =>
    B.pick v52 v64 (.bool false) fun v65 =>
    B.cond v65
    (B.pv (V.bin .sub v12 (.int .i64 1)) fun v67 =>
    Y2 [v67] h)
    (slices_partitionEqualCmpFuncG.k1 C E Q Y1 v0 v1 v4 v11 v12 h)
@[simp] def slices_partitionEqualCmpFuncG.l3 (C : CSem) (E : ElOps) (Q : AVal → AHeap → Prop) (Y1 : List AVal → AHeap → Prop) (v0 v1 v4 v11 : AVal) : List AVal → AHeap → (List AVal → AHeap → Prop) → Prop
  | [v12], h, Y2 => slices_partitionEqualCmpFuncG.k2 C E Q Y1 Y2 v0 v1 v4 v11 v12 h
  | _, _, _ => False
@[simp] def slices_partitionEqualCmpFuncG.k4 (C : CSem) (E : ElOps) (Q : AVal → AHeap → Prop) (Y1 : List AVal → AHeap → Prop) (Y3 : List AVal → AHeap → Prop) (v0 v1 v4 v11 v12 : AVal) (h : AHeap) : Prop :=
  B.pv (V.bin .leq v11 v12) fun v33 =>
    B.gd h v33 true (fun K => K v4 h) fun v35 h =>
    B.gd h v33 true (fun K => K v0 h) fun v36 h =>
    B.gd h v33 true (fun K => K v1 h) fun v37 h =>
    B.gd h v33 true (fun K => B.pv (V.idxS E.es v36 v37) fun v => K v h) fun v38 h =>
    B.gd h v33 true (fun K => E.ld h v38 fun v => K v h) fun v39 h =>
    B.gd h v33 true (fun K => K v0 h) fun v40 h =>
    B.gd h v33 true (fun K => K v11 h) fun v41 h =>
    B.gd h v33 true (fun K => B.pv (V.idxS E.es v40 v41) fun v => K v h) fun v42 h =>
    B.gd h v33 true (fun K => E.ld h v42 fun v => K v h) fun v43 h =>
    B.gd h v33 true (fun K => B.callv h C v35 [v39, v43] K) fun v44 h =>
    B.gd h v33 true (fun K => B.pv (V.bin .lss v44 (.int .i64 0)) fun v => K v h) fun v45 h =>
    B.gd h v33 true (fun K => B.pv (V.un .not v45) fun v => K v h) fun v46 h =>
    B.pick v33 v46 (.bool false) fun v47 =>
    B.cond v47
    (B.pv (V.bin .add v11 (.int .i64 1)) fun v49 =>
    Y3 [v49] h)
    (LoopR (slices_partitionEqualCmpFuncG.l3 C E Q Y1 v0 v1 v4 v11) [v12] h)
@[simp] def slices_partitionEqualCmpFuncG.l5 (C : CSem) (E : ElOps) (Q : AVal → AHeap → Prop) (Y1 : List AVal → AHeap → Prop) (v0 v1 v4 v12 : AVal) : List AVal → AHeap → (List AVal → AHeap → Prop) → Prop
  | [v11], h, Y3 => slices_partitionEqualCmpFuncG.k4 C E Q Y1 Y3 v0 v1 v4 v11 v12 h
  | _, _, _ => False
@[simp] def slices_partitionEqualCmpFuncG.l6 (C : CSem) (E : ElOps) (Q : AVal → AHeap → Prop) (v0 v1 v4 : AVal) : List AVal → AHeap → (List AVal → AHeap → Prop) → Prop
  | [v11, v12], h, Y1 => LoopR (slices_partitionEqualCmpFuncG.l5 C E Q Y1 v0 v1 v4 v12) [v11] h
  | _, _, _ => False
@[simp] def slices_partitionEqualCmpFuncG.k7 (C : CSem) (E : ElOps) (Q : AVal → AHeap → Prop) (v0 v1 v2 v4 : AVal) (h : AHeap) : Prop :=
  B.pv (V.bin .add v1 (.int .i64 1)) fun v28 =>
    B.pv (V.bin .sub v2 (.int .i64 1)) fun v30 =>
    LoopR (slices_partitionEqualCmpFuncG.l6 C E Q v0 v1 v4) [v28, v30] h
@[simp] def slices_partitionEqualCmpFuncG.k8 (C : CSem) (E : ElOps) (Q : AVal → AHeap → Prop) (v0 v1 v2 v3 v4 : AVal) (h : AHeap) : Prop :=
  B.pv (V.idxS E.es v0 v3) fun v19 =>
    E.ld h v19 fun v20 =>
    B.pv (V.idxS E.es v0 v1) fun v23 =>
    E.ld h v23 fun v24 =>
    B.pv (V.idxS E.es v0 v1) fun v25 =>
    E.st h v25 v20 fun h =>
    B.pv (V.idxS E.es v0 v3) fun v26 =>
    E.st h v26 v24 fun h =>
    slices_partitionEqualCmpFuncG.k7 C E Q v0 v1 v2 v4 h
@[simp] def slices_partitionEqualCmpFuncG.cps (C : CSem) (E : ElOps) (v0 v1 v2 v3 v4 : AVal) (h : AHeap) (Q : AVal → AHeap → Prop) : Prop :=
  slices_partitionEqualCmpFuncG.k8 C E Q v0 v1 v2 v3 v4 h
@[simp] def slices_partitionCmpFuncG.k1 (C : CSem) (E : ElOps) (Q : AVal → AHeap → Prop) (v0 v1 v13 : AVal) (h : AHeap) : Prop :=
  B.pv (V.idxS E.es v0 v1) fun v169 =>
    E.ld h v169 fun v170 =>
    B.pv (V.idxS E.es v0 v13) fun v173 =>
    E.ld h v173 fun v174 =>
    B.pv (V.idxS E.es v0 v13) fun v175 =>
    E.st h v175 v170 fun h =>
    B.pv (V.idxS E.es v0 v1) fun v176 =>
    E.st h v176 v174 fun h =>
    Q (.tup [v13, (.bool false)]) h
@[simp] def slices_partitionCmpFuncG.k2 (C : CSem) (E : ElOps) (Q : AVal → AHeap → Prop) (Y1 : List AVal → AHeap → Prop) (v0 v1 v4 v12 v13 : AVal) (h : AHeap) : Prop :=
  B.pv (V.bin .gtr v12 v13) fun v144 =>
    B.cond v144
    (slices_partitionCmpFuncG.k1 C E Q v0 v1 v13 h)
    (B.pv (V.idxS E.es v0 v13) fun v151 =>
    E.ld h v151 fun v152 =>
    B.pv (V.idxS E.es v0 v12) fun v155 =>
    E.ld h v155 fun v156 =>
    B.pv (V.idxS E.es v0 v12) fun v157 =>
    E.st h v157 v152 fun h =>
    B.pv (V.idxS E.es v0 v13) fun v158 =>
    E.st h v158 v156 fun h =>
    B.pv (V.bin .add v12 (.int .i64 1)) fun v160 =>
    B.pv (V.bin .sub v13 (.int .i64 1)) fun v162 =>
    Y1 [v160, v162] h)
@[simp] def slices_partitionCmpFuncG.k3 (C : CSem) (E : ElOps) (Q : AVal → AHeap → Prop) (Y1 : List AVal → AHeap → Prop) (Y2 : List AVal → AHeap → Prop) (v0 v1 v4 v12 v13 : AVal) (h : AHeap) : Prop :=
  B.pv (V.bin .leq v12 v13) fun v125 =>
    B.gd h v125 true (fun K => K v4 h) fun v127 h =>
    B.gd h v125 true (fun K => K v0 h) fun v128 h =>
    B.gd h v125 true (fun K => K v13 h) fun v129 h =>
    B.gd h v125 true (fun K => B.pv (V.idxS E.es v128 v129) fun v => K v h) fun v130 h =>
    B.gd h v125 true (fun K => E.ld h v130 fun v => K v h) fun v131 h =>
    B.gd h v125 true (fun K => K v0 h) fun v132 h =>
    B.gd h v125 true (fun K => K v1 h) fun v133 h =>
    B.gd h v125 true (fun K => B.pv (V.idxS E.es v132 v133) fun v => K v h) fun v134 h =>
    B.gd h v125 true (fun K => E.ld h v134 fun v => K v h) fun v135 h =>
    B.gd h v125 true (fun K => B.callv h C v127 [v131, v135] K) fun v136 h =>
    B.gd h v125 true (fun K => B.pv (V.bin .lss v136 (.int .i64 0)) fun v => K v h) fun v137 h =>
    B.gd h v125 true (fun K => B.pv (V.un .not v137) fun v => K v h) fun v138 h =>
    B.pick v125 v138 (.bool false) fun v139 =>
    B.cond v139
    (B.pv (V.bin .sub v13 (.int .i64 1)) fun v141 =>
    Y2 [v141] h)
    (slices_partitionCmpFuncG.k2 C E Q Y1 v0 v1 v4 v12 v13 h)
@[simp] def slices_partitionCmpFuncG.l4 (C : CSem) (E : ElOps) (Q : AVal → AHeap → Prop) (Y1 : List AVal → AHeap → Prop) (v0 v1 v4 v12 : AVal) : List AVal → AHeap → (List AVal → AHeap → Prop) → Prop
  | [v13], h, Y2 => slices_partitionCmpFuncG.k3 C E Q Y1 Y2 v0 v1 v4 v12 v13 h
  | _, _, _ => False
@[simp] def slices_partitionCmpFuncG.k5 (C : CSem) (E : ElOps) (Q : AVal → AHeap → Prop) (Y1 : List AVal → AHeap → Prop) (Y3 : List AVal → AHeap → Prop) (v0 v1 v4 v12 v13 : AVal) (h : AHeap) : Prop :=
  B.pv (V.bin .leq v12 v13) fun v107 =>
    B.gd h v107 true (fun K => K v4 h) fun v109 h =>
    B.gd h v107 true (fun K => K v0 h) fun v110 h =>
    B.gd h v107 true (fun K => K v12 h) fun v111 h =>
    B.gd h v107 true (fun K => B.pv (V.idxS E.es v110 v111) fun v => K v h) fun v112 h =>
    B.gd h v107 true (fun K => E.ld h v112 fun v => K v h) fun v113 h =>
    B.gd h v107 true (fun K => K v0 h) fun v114 h =>
    B.gd h v107 true (fun K => K v1 h) fun v115 h =>
    B.gd h v107 true (fun K => B.pv (V.idxS E.es v114 v115) fun v => K v h) fun v116 h =>
    B.gd h v107 true (fun K => E.ld h v116 fun v => K v h) fun v117 h =>
    B.gd h v107 true (fun K => B.callv h C v109 [v113, v117] K) fun v118 h =>
    B.gd h v107 true (fun K => B.pv (V.bin .lss v118 (.int .i64 0)) fun v => K v h) fun v119 h =>
    B.pick v107 v119 (.bool false) fun v120 =>
    B.cond v120
    (B.pv (V.bin .add v12 (.int .i64 1)) fun v122 =>
    Y3 [v122] h)
    (LoopR (slices_partitionCmpFuncG.l4 C E Q Y1 v0 v1 v4 v12) [v13] h)
@[simp] def slices_partitionCmpFuncG.l6 (C : CSem) (E : ElOps) (Q : AVal → AHeap → Prop) (Y1 : List AVal → AHeap → Prop) (v0 v1 v4 v13 : AVal) : List AVal → AHeap → (List AVal → AHeap → Prop) → Prop
  | [v12], h, Y3 => slices_partitionCmpFuncG.k5 C E Q Y1 Y3 v0 v1 v4 v12 v13 h
  | _, _, _ => False
@[simp] def slices_partitionCmpFuncG.l7 (C : CSem) (E : ElOps) (Q : AVal → AHeap → Prop) (v0 v1 v4 : AVal) : List AVal → AHeap → (List AVal → AHeap → Prop) → Prop
  | [v12, v13], h, Y1 => LoopR (slices_partitionCmpFuncG.l6 C E Q Y1 v0 v1 v4 v13) [v12] h
  | _, _, _ => False
@[simp] def slices_partitionCmpFuncG.k8 (C : CSem) (E : ElOps) (Q : AVal → AHeap → Prop) (v0 v1 v4 v12 v13 : AVal) (h : AHeap) : Prop :=
  B.pv (V.bin .add v12 (.int .i64 1)) fun v102 =>
    B.pv (V.bin .sub v13 (.int .i64 1)) fun v104 =>
    LoopR (slices_partitionCmpFuncG.l7 C E Q v0 v1 v4) [v102, v104] h
@[simp] def slices_partitionCmpFuncG.k9 (C : CSem) (E : ElOps) (Q : AVal → AHeap → Prop) (v0 v1 v4 v12 v13 : AVal) (h : AHeap) : Prop :=
  B.pv (V.idxS E.es v0 v13) fun v93 =>
    E.ld h v93 fun v94 =>
    B.pv (V.idxS E.es v0 v12) fun v97 =>
    E.ld h v97 fun v98 =>
    B.pv (V.idxS E.es v0 v12) fun v99 =>
    E.st h v99 v94 fun h =>
    B.pv (V.idxS E.es v0 v13) fun v100 =>
    E.st h v100 v98 fun h =>
    slices_partitionCmpFuncG.k8 C E Q v0 v1 v4 v12 v13 h
@[simp] def slices_partitionCmpFuncG.k10 (C : CSem) (E : ElOps) (Q : AVal → AHeap → Prop) (v0 v1 v4 v12 v13 : AVal) (h : AHeap) : Prop :=
  B.pv (V.bin .gtr v12 v13) fun v71 =>
    B.cond v71
    (B.pv (V.idxS E.es v0 v1) fun v78 =>
    E.ld h v78 fun v79 =>
    B.pv (V.idxS E.es v0 v13) fun v82 =>
    E.ld h v82 fun v83 =>
    B.pv (V.idxS E.es v0 v13) fun v84 =>
    E.st h v84 v79 fun h =>
    B.pv (V.idxS E.es v0 v1) fun v85 =>
    E.st h v85 v83 fun h =>
    Q (.tup [v13, (.bool true)]) h)
    (slices_partitionCmpFuncG.k9 C E Q v0 v1 v4 v12 v13 h)
@[simp] def slices_partitionCmpFuncG.k11 (C : CSem) (E : ElOps) (Q : AVal → AHeap → Prop) (Y4 : List AVal → AHeap → Prop) (v0 v1 v4 v12 v13 : AVal) (h : AHeap) : Prop :=
  B.pv (V.bin .leq v12 v13) fun v52 =>
    B.gd h v52 true (fun K => K v4 h) fun v54 h =>
    B.gd h v52 true (fun K => K v0 h) fun v55 h =>
    B.gd h v52 true (fun K => K v13 h) fun v56 h =>
    B.gd h v52 true (fun K => B.pv (V.idxS E.es v55 v56) fun v => K v h) fun v57 h =>
    B.gd h v52 true (fun K => E.ld h v57 fun v => K v h) fun v58 h =>
    B.gd h v52 true (fun K => K v0 h) fun v59 h =>
    B.gd h v52 true (fun K => K v1 h) fun v60 h =>
    B.gd h v52 true (fun K => B.pv (V.idxS E.es v59 v60) fun v => K v h) fun v61 h =>
    B.gd h v52 true (fun K => E.ld h v61 fun v => K v h) fun v62 h =>
    B.gd h v52 true (fun K => B.callv h C v54 [v58, v62] K) fun v63 h =>
    B.gd h v52 true (fun K => B.pv (V.bin .lss v63 (.int .i64 0)) fun v => K v h) fun v64 h =>
    B.gd h v52 true (fun K => B.pv (V.un .not v64) fun v => K v h) fun v65 h =>
    B.pick v52 v65 (.bool false) fun v66 =>
    B.cond v66
    (B.pv (V.bin .sub v13 (.int .i64 1)) fun v68 =>
    Y4 [v68] h)
    (slices_partitionCmpFuncG.k10 C E Q v0 v1 v4 v12 v13 h)
@[simp] def slices_partitionCmpFuncG.l12 (C : CSem) (E : ElOps) (Q : AVal → AHeap → Prop) (v0 v1 v4 v12 : AVal) : List AVal → AHeap → (List AVal → AHeap → Prop) → Prop
  | [v13], h, Y4 => slices_partitionCmpFuncG.k11 C E Q Y4 v0 v1 v4 v12 v13 h
  | _, _, _ => False
@[simp] def slices_partitionCmpFuncG.k13 (C : CSem) (E : ElOps) (Q : AVal → AHeap → Prop) (Y5 : List AVal → AHeap → Prop) (v0 v1 v4 v12 v13 : AVal) (h : AHeap) : Prop :=
  B.pv (V.bin .leq v12 v13) fun v34 =>
    B.gd h v34 true (fun K => K v4 h) fun v36 h =>
    B.gd h v34 true (fun K => K v0 h) fun v37 h =>
    B.gd h v34 true (fun K => K v12 h) fun v38 h =>
    B.gd h v34 true (fun K => B.pv (V.idxS E.es v37 v38) fun v => K v h) fun v39 h =>
    B.gd h v34 true (fun K => E.ld h v39 fun v => K v h) fun v40 h =>
    B.gd h v34 true (fun K => K v0 h) fun v41 h =>
    B.gd h v34 true (fun K => K v1 h) fun v42 h =>
    B.gd h v34 true (fun K => B.pv (V.idxS E.es v41 v42) fun v => K v h) fun v43 h =>
    B.gd h v34 true (fun K => E.ld h v43 fun v => K v h) fun v44 h =>
    B.gd h v34 true (fun K => B.callv h C v36 [v40, v44] K) fun v45 h =>
    B.gd h v34 true (fun K => B.pv (V.bin .lss v45 (.int .i64 0)) fun v => K v h) fun v46 h =>
    B.pick v34 v46 (.bool false) fun v47 =>
    B.cond v47
    (B.pv (V.bin .add v12 (.int .i64 1)) fun v49 =>
    Y5 [v49] h)
    (LoopR (slices_partitionCmpFuncG.l12 C E Q v0 v1 v4 v12) [v13] h)
@[simp] def slices_partitionCmpFuncG.l14 (C : CSem) (E : ElOps) (Q : AVal → AHeap → Prop) (v0 v1 v4 v13 : AVal) : List AVal → AHeap → (List AVal → AHeap → Prop) → Prop
  | [v12], h, Y5 => slices_partitionCmpFuncG.k13 C E Q Y5 v0 v1 v4 v12 v13 h
  | _, _, _ => False
@[simp] def slices_partitionCmpFuncG.k15 (C : CSem) (E : ElOps) (Q : AVal → AHeap → Prop) (v0 v1 v2 v4 : AVal) (h : AHeap) : Prop :=
  B.pv (V.bin .add v1 (.int .i64 1)) fun v29 =>
    B.pv (V.bin .sub v2 (.int .i64 1)) fun v31 =>
    LoopR (slices_partitionCmpFuncG.l14 C E Q v0 v1 v4 v31) [v29] h
@[simp] def slices_partitionCmpFuncG.k16 (C : CSem) (E : ElOps) (Q : AVal → AHeap → Prop) (v0 v1 v2 v3 v4 : AVal) (h : AHeap) : Prop :=
  B.pv (V.idxS E.es v0 v3) fun v20 =>
    E.ld h v20 fun v21 =>
    B.pv (V.idxS E.es v0 v1) fun v24 =>
    E.ld h v24 fun v25 =>
    B.pv (V.idxS E.es v0 v1) fun v26 =>
    E.st h v26 v21 fun h =>
    B.pv (V.idxS E.es v0 v3) fun v27 =>
    E.st h v27 v25 fun h =>
    slices_partitionCmpFuncG.k15 C E Q v0 v1 v2 v4 h
@[simp] def slices_partitionCmpFuncG.cps (C : CSem) (E : ElOps) (v0 v1 v2 v3 v4 : AVal) (h : AHeap) (Q : AVal → AHeap → Prop) : Prop :=
  slices_partitionCmpFuncG.k16 C E Q v0 v1 v2 v3 v4 h
@[simp] def slices_siftDownCmpFuncG.k1 (C : CSem) (E : ElOps) (Q : AVal → AHeap → Prop) (Y1 : List AVal → AHeap → Prop) (v0 v2 v3 v4 v10 v11 : AVal) (h : AHeap) : Prop :=
  B.pv (V.bin .add v3 v10) fun v47 =>
    B.pv (V.idxS E.es v0 v47) fun v48 =>
    E.ld h v48 fun v49 =>
    B.pv (V.bin .add v3 v11) fun v53 =>
    B.pv (V.idxS E.es v0 v53) fun v54 =>
    E.ld h v54 fun v55 =>
    B.callv h C v4 [v49, v55] fun v56 h =>
    B.pv (V.bin .lss v56 (.int .i64 0)) fun v57 =>
    B.pv (V.un .not v57) fun v58 =>
    B.cond v58
    (Q (.tup []) h)
    (B.pv (V.bin .add v3 v10) fun v62 =>
    B.pv (V.bin .add v3 v11) fun v66 =>
    B.pv (V.bin .add v3 v11) fun v70 =>
    B.pv (V.idxS E.es v0 v70) fun v71 =>
    E.ld h v71 fun v72 =>
    B.pv (V.bin .add v3 v10) fun v76 =>
    B.pv (V.idxS E.es v0 v76) fun v77 =>
    E.ld h v77 fun v78 =>
    B.pv (V.idxS E.es v0 v62) fun v79 =>
    E.st h v79 v72 fun h =>
    B.pv (V.idxS E.es v0 v66) fun v80 =>
    E.st h v80 v78 fun h =>
    Y1 [v11] h)
@[simp] def slices_siftDownCmpFuncG.k2 (C : CSem) (E : ElOps) (Q : AVal → AHeap → Prop) (Y1 : List AVal → AHeap → Prop) (v0 v2 v3 v4 v10 v11 : AVal) (h : AHeap) : Prop :=
  B.pv (V.bin .add v11 (.int .i64 1)) fun v20 =>
    B.pv (V.bin .lss v20 v2) fun v22 =>
    B.gd h v22 true (fun K => K v4 h) fun v24 h =>
    B.gd h v22 true (fun K => K v0 h) fun v25 h =>
    B.gd h v22 true (fun K => K v3 h) fun v26 h =>
    B.gd h v22 true (fun K => K v11 h) fun v27 h =>
    B.gd h v22 true (fun K => B.pv (V.bin .add v26 v27) fun v => K v h) fun v28 h =>
    B.gd h v22 true (fun K => B.pv (V.idxS E.es v25 v28) fun v => K v h) fun v29 h =>
    B.gd h v22 true (fun K => E.ld h v29 fun v => K v h) fun v30 h =>
    B.gd h v22 true (fun K => K v0 h) fun v31 h =>
    B.gd h v22 true (fun K => K v3 h) fun v32 h =>
    B.gd h v22 true (fun K => K v11 h) fun v33 h =>
    B.gd h v22 true (fun K => B.pv (V.bin .add v32 v33) fun v => K v h) fun v34 h =>
    B.gd h v22 true (fun K => B.pv (V.bin .add v34 (.int .i64 1)) fun v => K v h) fun v35 h =>
    B.gd h v22 true (fun K => B.pv (V.idxS E.es v31 v35) fun v => K v h) fun v36 h =>
    B.gd h v22 true (fun K => E.ld h v36 fun v => K v h) fun v37 h =>
    B.gd h v22 true (fun K => B.callv h C v24 [v30, v37] K) fun v38 h =>
    B.gd h v22 true (fun K => B.pv (V.bin .lss v38 (.int .i64 0)) fun v => K v h) fun v39 h =>
    B.pick v22 v39 (.bool false) fun v40 =>
    B.cond v40
    (B.pv (V.bin .add v11 (.int .i64 1)) fun v42 =>
    slices_siftDownCmpFuncG.k1 C E Q Y1 v0 v2 v3 v4 v10 v42 h)
    (slices_siftDownCmpFuncG.k1 C E Q Y1 v0 v2 v3 v4 v10 v11 h)
@[simp] def slices_siftDownCmpFuncG.k3 (C : CSem) (E : ElOps) (Q : AVal → AHeap → Prop) (Y1 : List AVal → AHeap → Prop) (v0 v2 v3 v4 v10 : AVal) (h : AHeap) : Prop :=
  B.pv (V.bin .mul (.int .i64 2) v10) fun v14 =>
    B.pv (V.bin .add v14 (.int .i64 1)) fun v15 =>
    B.pv (V.bin .geq v15 v2) fun v18 =>
    B.cond v18
    (Q (.tup []) h)
    (slices_siftDownCmpFuncG.k2 C E Q Y1 v0 v2 v3 v4 v10 v15 h)
@[simp] def slices_siftDownCmpFuncG.l4 (C : CSem) (E : ElOps) (Q : AVal → AHeap → Prop) (v0 v2 v3 v4 : AVal) : List AVal → AHeap → (List AVal → AHeap → Prop) → Prop
  | [v10], h, Y1 => slices_siftDownCmpFuncG.k3 C E Q Y1 v0 v2 v3 v4 v10 h
  | _, _, _ => False
@[simp] def slices_siftDownCmpFuncG.cps (C : CSem) (E : ElOps) (v0 v1 v2 v3 v4 : AVal) (h : AHeap) (Q : AVal → AHeap → Prop) : Prop :=
  LoopR (slices_siftDownCmpFuncG.l4 C E Q v0 v2 v3 v4) [v1] h
@[simp] def slices_medianAdjacentCmpFuncG.k1 (C : CSem) (E : ElOps) (f1 : Nat) (Q : AVal → AHeap → Prop) (v0 v1 v2 v3 : AVal) (h : AHeap) : Prop :=
  B.pv (V.bin .sub v1 (.int .i64 1)) fun v11 =>
    B.pv (V.bin .add v1 (.int .i64 1)) fun v14 =>
    B.call C f1 [v0, v11, v1, v14, v2, v3] h fun v17 h =>
    Q v17 h
@[simp] def slices_medianAdjacentCmpFuncG.cps (C : CSem) (E : ElOps) (f1 : Nat) (v0 v1 v2 v3 : AVal) (h : AHeap) (Q : AVal → AHeap → Prop) : Prop :=
  slices_medianAdjacentCmpFuncG.k1 C E f1 Q v0 v1 v2 v3 h
@[simp] def slices_medianCmpFuncG.k1 (C : CSem) (E : ElOps) (f1 : Nat) (Q : AVal → AHeap → Prop) (v0 v1 v2 v3 v4 v5 : AVal) (h : AHeap) : Prop :=
  B.call C f1 [v0, v1, v2, v4, v5] h fun v19 h =>
    B.pv (V.ext 0 v19) fun v20 =>
    B.pv (V.ext 1 v19) fun v21 =>
    B.call C f1 [v0, v21, v3, v4, v5] h fun v28 h =>
    B.pv (V.ext 0 v28) fun v29 =>
    B.pv (V.ext 1 v28) fun v30 =>
    B.call C f1 [v0, v20, v29, v4, v5] h fun v37 h =>
    B.pv (V.ext 0 v37) fun v38 =>
    B.pv (V.ext 1 v37) fun v39 =>
    Q v39 h
@[simp] def slices_medianCmpFuncG.cps (C : CSem) (E : ElOps) (f1 : Nat) (v0 v1 v2 v3 v4 v5 : AVal) (h : AHeap) (Q : AVal → AHeap → Prop) : Prop :=
  slices_medianCmpFuncG.k1 C E f1 Q v0 v1 v2 v3 v4 v5 h
@[simp] def slices_order2CmpFuncG.k1 (C : CSem) (E : ElOps) (Q : AVal → AHeap → Prop) (v0 v1 v2 v3 v4 : AVal) (h : AHeap) : Prop :=
  B.pv (V.idxS E.es v0 v2) fun v15 =>
    E.ld h v15 fun v16 =>
    B.pv (V.idxS E.es v0 v1) fun v19 =>
    E.ld h v19 fun v20 =>
    B.callv h C v4 [v16, v20] fun v21 h =>
    B.pv (V.bin .lss v21 (.int .i64 0)) fun v22 =>
    B.cond v22
    (B.nilCheck v3 fun v24 =>
    B.ld h v24 fun v25 =>
    B.pv (V.bin .add v25 (.int .i64 1)) fun v26 =>
    B.nilCheck v3 fun v27 =>
    B.st h v27 v26 fun h =>
    Q (.tup [v2, v1]) h)
    (Q (.tup [v1, v2]) h)
@[simp] def slices_order2CmpFuncG.cps (C : CSem) (E : ElOps) (v0 v1 v2 v3 v4 : AVal) (h : AHeap) (Q : AVal → AHeap → Prop) : Prop :=
  slices_order2CmpFuncG.k1 C E Q v0 v1 v2 v3 v4 h
end Go.Ab

/- What is told: residuals: what each function does in the abstract memory, printed by a program of mine. Definitions alone. -/
set_option linter.unusedVariables false
namespace Go.Ab
/-- slices.SortFunc[[]storeman/api.Row,storeman/api.Row] -/
def slices_SortFunc_api_Row_api_Row.cps (C : CSem) (N : Nat → Nat) (v0 v1 : AVal) (h : AHeap) (Q : AVal → AHeap → Prop) : Prop :=
  slices_SortFuncG.cps C (opsF 2 48 [.nils, .nils] 0 []) (N 287) (N 288) v0 v1 h Q
def slices_SortFunc_api_Row_api_Row.Imp (C : CSem) (N : Nat → Nat) : Prop := ∀ (v0 v1 : AVal) (h : AHeap) (Q : AVal → AHeap → Prop), slices_SortFunc_api_Row_api_Row.cps C N v0 v1 h (dn Q) → C (N 283) [v0, v1] h Q
/-- slices.Clone[[]byte,byte] -/
def slices_Clone_byte_byte.cps (C : CSem) (N : Nat → Nat) (v0 : AVal) (h : AHeap) (Q : AVal → AHeap → Prop) : Prop :=
  slices_CloneG.cps C (opsS 1 (.int .u8 0) 0) v0 h Q
def slices_Clone_byte_byte.Imp (C : CSem) (N : Nat → Nat) : Prop := ∀ (v0 : AVal) (h : AHeap) (Q : AVal → AHeap → Prop), slices_Clone_byte_byte.cps C N v0 h (dn Q) → C (N 284) [v0] h Q
/-- slices.pdqsortCmpFunc[storeman/api.Row] -/
def slices_pdqsortCmpFunc_api_Row.cps (C : CSem) (N : Nat → Nat) (v0 v1 v2 v3 v4 : AVal) (h : AHeap) (Q : AVal → AHeap → Prop) : Prop :=
  slices_pdqsortCmpFuncG.cps C (opsF 2 48 [.nils, .nils] 0 []) (N 289) (N 290) (N 288) (N 291) (N 292) (N 293) (N 294) (N 295) (N 296) v0 v1 v2 v3 v4 h Q
def slices_pdqsortCmpFunc_api_Row.Imp (C : CSem) (N : Nat → Nat) : Prop := ∀ (v0 v1 v2 v3 v4 : AVal) (h : AHeap) (Q : AVal → AHeap → Prop), slices_pdqsortCmpFunc_api_Row.cps C N v0 v1 v2 v3 v4 h (dn Q) → C (N 288) [v0, v1, v2, v3, v4] h Q
/-- slices.partitionEqualCmpFunc[storeman/api.Row] -/
def slices_partitionEqualCmpFunc_api_Row.cps (C : CSem) (N : Nat → Nat) (v0 v1 v2 v3 v4 : AVal) (h : AHeap) (Q : AVal → AHeap → Prop) : Prop :=
  slices_partitionEqualCmpFuncG.cps C (opsF 2 48 [.nils, .nils] 0 []) v0 v1 v2 v3 v4 h Q
def slices_partitionEqualCmpFunc_api_Row.Imp (C : CSem) (N : Nat → Nat) : Prop := ∀ (v0 v1 v2 v3 v4 : AVal) (h : AHeap) (Q : AVal → AHeap → Prop), slices_partitionEqualCmpFunc_api_Row.cps C N v0 v1 v2 v3 v4 h (dn Q) → C (N 289) [v0, v1, v2, v3, v4] h Q
/-- slices.partitionCmpFunc[storeman/api.Row] -/
def slices_partitionCmpFunc_api_Row.cps (C : CSem) (N : Nat → Nat) (v0 v1 v2 v3 v4 : AVal) (h : AHeap) (Q : AVal → AHeap → Prop) : Prop :=
  slices_partitionCmpFuncG.cps C (opsF 2 48 [.nils, .nils] 0 []) v0 v1 v2 v3 v4 h Q
def slices_partitionCmpFunc_api_Row.Imp (C : CSem) (N : Nat → Nat) : Prop := ∀ (v0 v1 v2 v3 v4 : AVal) (h : AHeap) (Q : AVal → AHeap → Prop), slices_partitionCmpFunc_api_Row.cps C N v0 v1 v2 v3 v4 h (dn Q) → C (N 290) [v0, v1, v2, v3, v4] h Q
/-- slices.partialInsertionSortCmpFunc[storeman/api.Row] -/
def slices_partialInsertionSortCmpFunc_api_Row.cps (C : CSem) (N : Nat → Nat) (v0 v1 v2 v3 : AVal) (h : AHeap) (Q : AVal → AHeap → Prop) : Prop :=
  slices_partialInsertionSortCmpFuncG.cps C (opsF 2 48 [.nils, .nils] 0 []) v0 v1 v2 v3 h Q
def slices_partialInsertionSortCmpFunc_api_Row.Imp (C : CSem) (N : Nat → Nat) : Prop := ∀ (v0 v1 v2 v3 : AVal) (h : AHeap) (Q : AVal → AHeap → Prop), slices_partialInsertionSortCmpFunc_api_Row.cps C N v0 v1 v2 v3 h (dn Q) → C (N 291) [v0, v1, v2, v3] h Q
/-- slices.reverseRangeCmpFunc[storeman/api.Row] -/
def slices_reverseRangeCmpFunc_api_Row.cps (C : CSem) (N : Nat → Nat) (v0 v1 v2 v3 : AVal) (h : AHeap) (Q : AVal → AHeap → Prop) : Prop :=
  slices_reverseRangeCmpFuncG.cps C (opsF 2 48 [.nils, .nils] 0 []) v0 v1 v2 v3 h Q
def slices_reverseRangeCmpFunc_api_Row.Imp (C : CSem) (N : Nat → Nat) : Prop := ∀ (v0 v1 v2 v3 : AVal) (h : AHeap) (Q : AVal → AHeap → Prop), slices_reverseRangeCmpFunc_api_Row.cps C N v0 v1 v2 v3 h (dn Q) → C (N 292) [v0, v1, v2, v3] h Q
/-- slices.choosePivotCmpFunc[storeman/api.Row] -/
def slices_choosePivotCmpFunc_api_Row.cps (C : CSem) (N : Nat → Nat) (v0 v1 v2 v3 : AVal) (h : AHeap) (Q : AVal → AHeap → Prop) : Prop :=
  slices_choosePivotCmpFuncG.cps C (opsF 2 48 [.nils, .nils] 0 []) (N 300) (N 301) v0 v1 v2 v3 h Q
def slices_choosePivotCmpFunc_api_Row.Imp (C : CSem) (N : Nat → Nat) : Prop := ∀ (v0 v1 v2 v3 : AVal) (h : AHeap) (Q : AVal → AHeap → Prop), slices_choosePivotCmpFunc_api_Row.cps C N v0 v1 v2 v3 h (dn Q) → C (N 293) [v0, v1, v2, v3] h Q
/-- slices.breakPatternsCmpFunc[storeman/api.Row] -/
def slices_breakPatternsCmpFunc_api_Row.cps (C : CSem) (N : Nat → Nat) (v0 v1 v2 v3 : AVal) (h : AHeap) (Q : AVal → AHeap → Prop) : Prop :=
  slices_breakPatternsCmpFuncG.cps C (opsF 2 48 [.nils, .nils] 0 []) (N 298) (N 299) v0 v1 v2 v3 h Q
def slices_breakPatternsCmpFunc_api_Row.Imp (C : CSem) (N : Nat → Nat) : Prop := ∀ (v0 v1 v2 v3 : AVal) (h : AHeap) (Q : AVal → AHeap → Prop), slices_breakPatternsCmpFunc_api_Row.cps C N v0 v1 v2 v3 h (dn Q) → C (N 294) [v0, v1, v2, v3] h Q
/-- slices.heapSortCmpFunc[storeman/api.Row] -/
def slices_heapSortCmpFunc_api_Row.cps (C : CSem) (N : Nat → Nat) (v0 v1 v2 v3 : AVal) (h : AHeap) (Q : AVal → AHeap → Prop) : Prop :=
  slices_heapSortCmpFuncG.cps C (opsF 2 48 [.nils, .nils] 0 []) (N 297) v0 v1 v2 v3 h Q
def slices_heapSortCmpFunc_api_Row.Imp (C : CSem) (N : Nat → Nat) : Prop := ∀ (v0 v1 v2 v3 : AVal) (h : AHeap) (Q : AVal → AHeap → Prop), slices_heapSortCmpFunc_api_Row.cps C N v0 v1 v2 v3 h (dn Q) → C (N 295) [v0, v1, v2, v3] h Q
/-- slices.insertionSortCmpFunc[storeman/api.Row] -/
def slices_insertionSortCmpFunc_api_Row.cps (C : CSem) (N : Nat → Nat) (v0 v1 v2 v3 : AVal) (h : AHeap) (Q : AVal → AHeap → Prop) : Prop :=
  slices_insertionSortCmpFuncG.cps C (opsF 2 48 [.nils, .nils] 0 []) v0 v1 v2 v3 h Q
def slices_insertionSortCmpFunc_api_Row.Imp (C : CSem) (N : Nat → Nat) : Prop := ∀ (v0 v1 v2 v3 : AVal) (h : AHeap) (Q : AVal → AHeap → Prop), slices_insertionSortCmpFunc_api_Row.cps C N v0 v1 v2 v3 h (dn Q) → C (N 296) [v0, v1, v2, v3] h Q
/-- slices.siftDownCmpFunc[storeman/api.Row] -/
def slices_siftDownCmpFunc_api_Row.cps (C : CSem) (N : Nat → Nat) (v0 v1 v2 v3 v4 : AVal) (h : AHeap) (Q : AVal → AHeap → Prop) : Prop :=
  slices_siftDownCmpFuncG.cps C (opsF 2 48 [.nils, .nils] 0 []) v0 v1 v2 v3 v4 h Q
def slices_siftDownCmpFunc_api_Row.Imp (C : CSem) (N : Nat → Nat) : Prop := ∀ (v0 v1 v2 v3 v4 : AVal) (h : AHeap) (Q : AVal → AHeap → Prop), slices_siftDownCmpFunc_api_Row.cps C N v0 v1 v2 v3 v4 h (dn Q) → C (N 297) [v0, v1, v2, v3, v4] h Q
@[simp] def slices_xorshift_Next.k1 (C : CSem) (N : Nat → Nat) (Q : AVal → AHeap → Prop) (v0 : AVal) (h : AHeap) : Prop :=
  B.nilCheck v0 fun v4 =>
    B.ld h v4 fun v5 =>
    B.nilCheck v0 fun v7 =>
    B.ld h v7 fun v8 =>
    B.pv (V.bin .shl v8 (.int .u64 13)) fun v9 =>
    B.pv (V.bin .xor v5 v9) fun v10 =>
    B.nilCheck v0 fun v11 =>
    B.st h v11 v10 fun h =>
    B.nilCheck v0 fun v13 =>
    B.ld h v13 fun v14 =>
    B.nilCheck v0 fun v16 =>
    B.ld h v16 fun v17 =>
    B.pv (V.bin .shr v17 (.int .u64 7)) fun v18 =>
    B.pv (V.bin .xor v14 v18) fun v19 =>
    B.nilCheck v0 fun v20 =>
    B.st h v20 v19 fun h =>
    B.nilCheck v0 fun v22 =>
    B.ld h v22 fun v23 =>
    B.nilCheck v0 fun v25 =>
    B.ld h v25 fun v26 =>
    B.pv (V.bin .shl v26 (.int .u64 17)) fun v27 =>
    B.pv (V.bin .xor v23 v27) fun v28 =>
    B.nilCheck v0 fun v29 =>
    B.st h v29 v28 fun h =>
    B.nilCheck v0 fun v31 =>
    B.ld h v31 fun v32 =>
    Q v32 h
/-- (ptr slices.xorshift).Next -/
@[simp] def slices_xorshift_Next.cps (C : CSem) (N : Nat → Nat) (v0 : AVal) (h : AHeap) (Q : AVal → AHeap → Prop) : Prop :=
  slices_xorshift_Next.k1 C N Q v0 h
def slices_xorshift_Next.Imp (C : CSem) (N : Nat → Nat) : Prop := ∀ (v0 : AVal) (h : AHeap) (Q : AVal → AHeap → Prop), slices_xorshift_Next.cps C N v0 h (dn Q) → C (N 298) [v0] h Q
/-- slices.nextPowerOfTwo -/
@[simp] def slices_nextPowerOfTwo.cps (C : CSem) (N : Nat → Nat) (v0 : AVal) (h : AHeap) (Q : AVal → AHeap → Prop) : Prop :=
  B.pv (V.toInt .u64 v0) fun v4 =>
    B.call C (N 287) [v4] h fun v5 h =>
    B.pv (V.bin .shl (.int .u64 1) v5) fun v6 =>
    Q v6 h
def slices_nextPowerOfTwo.Imp (C : CSem) (N : Nat → Nat) : Prop := ∀ (v0 : AVal) (h : AHeap) (Q : AVal → AHeap → Prop), slices_nextPowerOfTwo.cps C N v0 h (dn Q) → C (N 299) [v0] h Q
/-- slices.medianCmpFunc[storeman/api.Row] -/
def slices_medianCmpFunc_api_Row.cps (C : CSem) (N : Nat → Nat) (v0 v1 v2 v3 v4 v5 : AVal) (h : AHeap) (Q : AVal → AHeap → Prop) : Prop :=
  slices_medianCmpFuncG.cps C (opsF 2 48 [.nils, .nils] 0 []) (N 302) v0 v1 v2 v3 v4 v5 h Q
def slices_medianCmpFunc_api_Row.Imp (C : CSem) (N : Nat → Nat) : Prop := ∀ (v0 v1 v2 v3 v4 v5 : AVal) (h : AHeap) (Q : AVal → AHeap → Prop), slices_medianCmpFunc_api_Row.cps C N v0 v1 v2 v3 v4 v5 h (dn Q) → C (N 300) [v0, v1, v2, v3, v4, v5] h Q
/-- slices.medianAdjacentCmpFunc[storeman/api.Row] -/
def slices_medianAdjacentCmpFunc_api_Row.cps (C : CSem) (N : Nat → Nat) (v0 v1 v2 v3 : AVal) (h : AHeap) (Q : AVal → AHeap → Prop) : Prop :=
  slices_medianAdjacentCmpFuncG.cps C (opsF 2 48 [.nils, .nils] 0 []) (N 300) v0 v1 v2 v3 h Q
def slices_medianAdjacentCmpFunc_api_Row.Imp (C : CSem) (N : Nat → Nat) : Prop := ∀ (v0 v1 v2 v3 : AVal) (h : AHeap) (Q : AVal → AHeap → Prop), slices_medianAdjacentCmpFunc_api_Row.cps C N v0 v1 v2 v3 h (dn Q) → C (N 301) [v0, v1, v2, v3] h Q
/-- slices.order2CmpFunc[storeman/api.Row] -/
def slices_order2CmpFunc_api_Row.cps (C : CSem) (N : Nat → Nat) (v0 v1 v2 v3 v4 : AVal) (h : AHeap) (Q : AVal → AHeap → Prop) : Prop :=
  slices_order2CmpFuncG.cps C (opsF 2 48 [.nils, .nils] 0 []) v0 v1 v2 v3 v4 h Q
def slices_order2CmpFunc_api_Row.Imp (C : CSem) (N : Nat → Nat) : Prop := ∀ (v0 v1 v2 v3 v4 : AVal) (h : AHeap) (Q : AVal → AHeap → Prop), slices_order2CmpFunc_api_Row.cps C N v0 v1 v2 v3 v4 h (dn Q) → C (N 302) [v0, v1, v2, v3, v4] h Q
end Go.Ab
