/- What is proved: a part of the way to the statement; each part is headed by what it proves. No conditions. -/
import Derived.Test.YtnlgkpcffblojaaQ3
import Derived.Test.YtnlgkpcffblojaaQ5
import Derived.KernelRfl

/- What is proved: arguments that are lists of plain values, read in the abstract memory. No conditions. -/
set_option linter.unusedVariables false
namespace Go.Ab
theorem arg_slice {T : Type} {H : AHeap} {bytes es : Nat} {e : Ty} {v : AVal} (cs : T → List AVal) (hd : ∀ p, AbsOk H e p → ∃ t, p = cs t) (h : AbsOk H (.sl bytes es e) [v]) :
    ∃ L : List T, SlIs H es v (L.map cs) ∧ L.length * bytes ≤ reach := by
  rcases h with h | h | ⟨id, parts, h1, h2, h3, h4⟩
  · cases h; exact ⟨[], SlX.nils H es, by simp⟩
  · cases h; exact ⟨[], SlX.sz H es, by simp⟩
  · cases h1
    have : ∃ L : List T, parts = L.map cs := by
      clear h2 h3
      induction parts with
      | nil => exact ⟨[], rfl⟩
      | cons p r ih =>
        obtain ⟨L, rfl⟩ := ih fun q hq => h4 q (by simp [hq])
        obtain ⟨t, rfl⟩ := hd p (h4 p (by simp)).1
        exact ⟨t :: L, rfl⟩
    obtain ⟨L, rfl⟩ := this
    have hl : ∀ p ∈ L.map cs ++ [], p.length = es := fun p hp => (h4 p (by simpa using hp)).2
    have hfl : (L.map cs).flatten.length = L.length * es := by
      have := flat_len (css := L.map cs) (n := es) fun p hp => (h4 p hp).2
      simpa using this
    refine ⟨L, ⟨hl, .inr ⟨id, 0, 0, (L.map cs).length, roOf (L.map cs).flatten, (L.map cs).flatten.length, rfl, by simp, h2, lookup_self .., ?_, Nat.le_refl _, ?_⟩⟩, by simpa using h3⟩
    · rw [hfl]; simp
    · simp only [roOf, List.drop_zero, List.append_nil, List.length_nil, Nat.add_zero, List.length_map]
      rw [← hfl, List.take_length]
end Go.Ab

/- What is proved: what the statements ask of lists of their own, that they lie apart: generic, whatever the elements. No conditions. -/
set_option linter.unusedVariables false
set_option linter.unusedSimpArgs false
namespace Go.Ab
variable {C : CSem} {N : Nat → Nat}

/-- How elements of a kind are loaded, stored, marked, compared. -/
structure ElOps where
  es : Nat
  bytes : Nat
  z : List AVal
  f : Nat
  kp : Option Nat
  ld : AHeap → AVal → (AVal → Prop) → Prop
  st : AHeap → AVal → AVal → (AHeap → Prop) → Prop
  eq : AHeap → AVal → AVal → (AVal → AHeap → Prop) → Prop

section
variable (E : ElOps)
@[simp] def flatG.k3 (C : CSem) (Q : AVal → AHeap → Prop) (Y1 Y2 : List AVal → AHeap → Prop) (v0 v5 v14 v15 : AVal) (h : AHeap) : Prop :=
  B.pv (V.idxS 1 v0 v14) fun v161 =>
    B.ld h v161 fun v162 =>
    B.pv (V.lenSl v162) fun v163 =>
    B.pv (V.bin .lss v15 v163) fun v164 =>
    B.cond v164
    (B.pv (V.idxS 1 v0 v14) fun v169 =>
    B.ld h v169 fun v170 =>
    B.pv (V.idxS E.es v170 v15) fun v172 =>
    E.ld h v172 fun v173 =>
    B.call C E.f [v14, v15] h (B.keepS h [(v169, none), (v172, E.kp)] (fun v176 h => E.eq h v173 v176 fun v177 h =>
    B.pv (V.un .not v177) fun v178 =>
    B.gd h v178 false (fun K => K v5 h) fun v180 h =>
    B.gd h v178 false (fun K => K v14 h) fun v181 h =>
    B.gd h v178 false (fun K => B.pv (V.idxS 1 v180 v181) fun v => K v h) fun v182 h =>
    B.gd h v178 false (fun K => B.ld h v182 fun v => K v h) fun v183 h =>
    B.gd h v178 false (fun K => K v15 h) fun v184 h =>
    B.gd h v178 false (fun K => B.pv (V.idxS E.es v183 v184) fun v => K v h) fun v185 h =>
    B.gd h v178 false (fun K => E.ld h v185 fun v => K v h) fun v186 h =>
    B.gd h v178 false (fun K => K v14 h) fun v187 h =>
    B.gd h v178 false (fun K => K v15 h) fun v188 h =>
    B.gd h v178 false (fun K => B.call C E.f [v187, v188] h (B.keepS h [(v182, none), (v185, E.kp)] K)) fun v189 h =>
    B.gd h v178 false (fun K => E.eq h v186 v189 K) fun v190 h =>
    B.gd h v178 false (fun K => B.pv (V.un .not v190) fun v => K v h) fun v191 h =>
    B.pick v178 (.bool true) v191 fun v192 =>
    B.cond v192
    (Q (.bool false) h)
    (B.pv (V.bin .add v15 (.int .i64 1)) fun v166 =>
    Y2 [v166] h))))
    (B.pv (V.bin .add v14 (.int .i64 1)) fun v157 =>
    Y1 [v157] h)
@[simp] def flatG.l5 (C : CSem) (Q : AVal → AHeap → Prop) (Y1 : List AVal → AHeap → Prop) (v0 v5 v14 : AVal) : List AVal → AHeap → (List AVal → AHeap → Prop) → Prop
  | [v15], h, Y2 => flatG.k3 E C Q Y1 Y2 v0 v5 v14 v15 h
  | _, _, _ => False
@[simp] def flatG.k12 (C : CSem) (Q : AVal → AHeap → Prop) (Y1 : List AVal → AHeap → Prop) (v0 v5 v14 : AVal) (h : AHeap) : Prop :=
  B.pv (V.lenSl v0) fun v154 =>
    B.pv (V.bin .lss v14 v154) fun v155 =>
    B.cond v155
    (LoopR (flatG.l5 E C Q Y1 v0 v5 v14) [(.int .i64 0)] h)
    (Q (.bool true) h)
@[simp] def flatG.l15 (C : CSem) (Q : AVal → AHeap → Prop) (v0 v5 : AVal) : List AVal → AHeap → (List AVal → AHeap → Prop) → Prop
  | [v14], h, Y1 => flatG.k12 E C Q Y1 v0 v5 v14 h
  | _, _, _ => False
@[simp] def flatG.k22 (C : CSem) (Q : AVal → AHeap → Prop) (Y3 : List AVal → AHeap → Prop) (v0 v5 v11 v12 : AVal) (h : AHeap) : Prop :=
  B.pv (V.idxS 1 v0 v11) fun v147 =>
    B.ld h v147 fun v148 =>
    B.appW h E.es E.bytes v148 v12 fun v150 h =>
    B.pv (V.idxS 1 v5 v11) fun v151 =>
    B.st h v151 v150 fun h =>
    B.pv (V.bin .add v11 (.int .i64 1)) fun v128 =>
    Y3 [v128] h
@[simp] def flatG.k24 (C : CSem) (Q : AVal → AHeap → Prop) (Y3 Y4 : List AVal → AHeap → Prop) (v0 v5 v11 v12 v13 : AVal) (h : AHeap) : Prop :=
  B.pv (V.bin .lss v13 (.int .i64 64)) fun v131 =>
    B.cond v131
    (B.pv (V.lenSl v0) fun v138 =>
    B.pv (V.bin .add v11 v138) fun v139 =>
    B.call C E.f [v139, v13] h fun v141 h =>
    B.pv (V.idxS E.es v12 v13) fun v142 =>
    E.st h v142 v141 fun h =>
    B.pv (V.bin .add v13 (.int .i64 1)) fun v133 =>
    Y4 [v133] h)
    (flatG.k22 E C Q Y3 v0 v5 v11 v12 h)
@[simp] def flatG.l26 (C : CSem) (Q : AVal → AHeap → Prop) (Y3 : List AVal → AHeap → Prop) (v0 v5 v11 v12 : AVal) : List AVal → AHeap → (List AVal → AHeap → Prop) → Prop
  | [v13], h, Y4 => flatG.k24 E C Q Y3 Y4 v0 v5 v11 v12 v13 h
  | _, _, _ => False
@[simp] def flatG.k37 (C : CSem) (Q : AVal → AHeap → Prop) (Y3 : List AVal → AHeap → Prop) (v0 v5 v11 : AVal) (h : AHeap) : Prop :=
  B.pv (V.lenSl v0) fun v125 =>
    B.pv (V.bin .lss v11 v125) fun v126 =>
    B.cond v126
    (0 < E.es ∧ B.mks h E.bytes (some E.z) (.int .i64 64) (.int .i64 64) fun v129 h =>
    LoopR (flatG.l26 E C Q Y3 v0 v5 v11 v129) [(.int .i64 0)] h)
    (LoopR (flatG.l15 E C Q v0 v5) [(.int .i64 0)] h)
@[simp] def flatG.l40 (C : CSem) (Q : AVal → AHeap → Prop) (v0 v5 : AVal) : List AVal → AHeap → (List AVal → AHeap → Prop) → Prop
  | [v11], h, Y3 => flatG.k37 E C Q Y3 v0 v5 v11 h
  | _, _, _ => False
@[simp] def flatG.k47 (C : CSem) (Q : AVal → AHeap → Prop) (Y5 Y6 : List AVal → AHeap → Prop) (v0 v5 v9 v10 : AVal) (h : AHeap) : Prop :=
  B.pv (V.idxS 1 v5 v9) fun v82 =>
    B.ld h v82 fun v83 =>
    B.pv (V.lenSl v83) fun v84 =>
    B.pv (V.bin .lss v10 v84) fun v85 =>
    B.cond v85
    (B.pv (V.idxS 1 v5 v9) fun v90 =>
    B.ld h v90 fun v91 =>
    B.pv (V.idxS E.es v91 v10) fun v93 =>
    E.ld h v93 fun v94 =>
    B.call C E.f [v9, v10] h (B.keepS h [(v90, none), (v93, E.kp)] (fun v97 h => E.eq h v94 v97 fun v98 h =>
    B.pv (V.un .not v98) fun v99 =>
    B.gd h v99 false (fun K => K v10 h) fun v101 h =>
    B.gd h v99 false (fun K => K v0 h) fun v102 h =>
    B.gd h v99 false (fun K => K v9 h) fun v103 h =>
    B.gd h v99 false (fun K => B.pv (V.idxS 1 v102 v103) fun v => K v h) fun v104 h =>
    B.gd h v99 false (fun K => B.ld h v104 fun v => K v h) fun v105 h =>
    B.gd h v99 false (fun K => B.pv (V.lenSl v105) fun v => K v h) fun v106 h =>
    B.gd h v99 false (fun K => B.pv (V.bin .lss v101 v106) fun v => K v h) fun v107 h =>
    B.gd h v99 false (fun K => K v107 h) fun v108 h =>
    B.gd h v108 true (fun K => K v0 h) fun v109 h =>
    B.gd h v108 true (fun K => K v9 h) fun v110 h =>
    B.gd h v108 true (fun K => B.pv (V.idxS 1 v109 v110) fun v => K v h) fun v111 h =>
    B.gd h v108 true (fun K => B.ld h v111 fun v => K v h) fun v112 h =>
    B.gd h v108 true (fun K => K v10 h) fun v113 h =>
    B.gd h v108 true (fun K => B.pv (V.idxS E.es v112 v113) fun v => K v h) fun v114 h =>
    B.gd h v108 true (fun K => E.ld h v114 fun v => K v h) fun v115 h =>
    B.gd h v108 true (fun K => K v9 h) fun v116 h =>
    B.gd h v108 true (fun K => K v10 h) fun v117 h =>
    B.gd h v108 true (fun K => B.call C E.f [v116, v117] h (B.keepS h [(v111, none), (v114, E.kp)] K)) fun v118 h =>
    B.gd h v108 true (fun K => E.eq h v115 v118 K) fun v119 h =>
    B.gd h v108 true (fun K => B.pv (V.un .not v119) fun v => K v h) fun v120 h =>
    B.gd h v99 false (fun K => B.pick v108 v120 (.bool false) fun v => K v h) fun v121 h =>
    B.pick v99 (.bool true) v121 fun v122 =>
    B.cond v122
    (Q (.bool false) h)
    (B.pv (V.bin .add v10 (.int .i64 1)) fun v87 =>
    Y6 [v87] h))))
    (B.pv (V.bin .add v9 (.int .i64 1)) fun v78 =>
    Y5 [v78] h)
@[simp] def flatG.l49 (C : CSem) (Q : AVal → AHeap → Prop) (Y5 : List AVal → AHeap → Prop) (v0 v5 v9 : AVal) : List AVal → AHeap → (List AVal → AHeap → Prop) → Prop
  | [v10], h, Y6 => flatG.k47 E C Q Y5 Y6 v0 v5 v9 v10 h
  | _, _, _ => False
@[simp] def flatG.k56 (C : CSem) (Q : AVal → AHeap → Prop) (Y5 : List AVal → AHeap → Prop) (v0 v5 v9 : AVal) (h : AHeap) : Prop :=
  B.pv (V.lenSl v0) fun v75 =>
    B.pv (V.bin .lss v9 v75) fun v76 =>
    B.cond v76
    (LoopR (flatG.l49 E C Q Y5 v0 v5 v9) [(.int .i64 0)] h)
    (LoopR (flatG.l40 E C Q v0 v5) [(.int .i64 0)] h)
@[simp] def flatG.l59 (C : CSem) (Q : AVal → AHeap → Prop) (v0 v5 : AVal) : List AVal → AHeap → (List AVal → AHeap → Prop) → Prop
  | [v9], h, Y5 => flatG.k56 E C Q Y5 v0 v5 v9 h
  | _, _, _ => False
@[simp] def flatG.k67 (C : CSem) (Q : AVal → AHeap → Prop) (Y7 Y8 : List AVal → AHeap → Prop) (v0 v5 v6 v7 v8 : AVal) (h : AHeap) : Prop :=
  B.pv (V.bin .lss v8 (.int .i64 64)) fun v54 =>
    B.cond v54
    (B.pv (V.idxS 1 v0 v6) fun v61 =>
    B.ld h v61 fun v62 =>
    B.pv (V.lenSl v62) fun v63 =>
    B.pv (V.bin .add v63 v8) fun v65 =>
    B.call C E.f [v6, v65] h fun v66 h =>
    B.newO h (fillL [(0, E.kp, v66)] (repL 1 E.z)) fun i67 h =>
    B.appW h E.es E.bytes v7 (.sl i67 0 0 1 E.es 1) fun v68 h =>
    B.pv (V.bin .add v8 (.int .i64 1)) fun v56 =>
    Y8 [v68, v56] h)
    (B.pv (V.idxS 1 v5 v6) fun v72 =>
    B.st h v72 v7 fun h =>
    B.pv (V.bin .add v6 (.int .i64 1)) fun v48 =>
    Y7 [v48] h)
@[simp] def flatG.l69 (C : CSem) (Q : AVal → AHeap → Prop) (Y7 : List AVal → AHeap → Prop) (v0 v5 v6 : AVal) : List AVal → AHeap → (List AVal → AHeap → Prop) → Prop
  | [v7, v8], h, Y8 => flatG.k67 E C Q Y7 Y8 v0 v5 v6 v7 v8 h
  | _, _, _ => False
@[simp] def flatG.k79 (C : CSem) (Q : AVal → AHeap → Prop) (Y7 : List AVal → AHeap → Prop) (v0 v5 v6 : AVal) (h : AHeap) : Prop :=
  B.pv (V.lenSl v0) fun v45 =>
    B.pv (V.bin .lss v6 v45) fun v46 =>
    B.cond v46
    (B.pv (V.idxS 1 v0 v6) fun v51 =>
    B.ld h v51 fun v52 =>
    LoopR (flatG.l69 E C Q Y7 v0 v5 v6) [v52, (.int .i64 0)] h)
    (LoopR (flatG.l59 E C Q v0 v5) [(.int .i64 0)] h)
@[simp] def flatG.l82 (C : CSem) (Q : AVal → AHeap → Prop) (v0 v5 : AVal) : List AVal → AHeap → (List AVal → AHeap → Prop) → Prop
  | [v6], h, Y7 => flatG.k79 E C Q Y7 v0 v5 v6 h
  | _, _, _ => False
@[simp] def flatG.k91 (C : CSem) (Q : AVal → AHeap → Prop) (Y9 Y10 : List AVal → AHeap → Prop) (v0 v3 v4 : AVal) (h : AHeap) : Prop :=
  B.pv (V.idxS 1 v0 v3) fun v25 =>
    B.ld h v25 fun v26 =>
    B.pv (V.lenSl v26) fun v27 =>
    B.pv (V.bin .lss v4 v27) fun v28 =>
    B.cond v28
    (B.pv (V.idxS 1 v0 v3) fun v33 =>
    B.ld h v33 fun v34 =>
    B.call C E.f [v3, v4] h (B.keepS h [(v33, none)] (fun v38 h => B.pv (V.idxS E.es v34 v4) fun v39 =>
    E.st h v39 v38 fun h =>
    B.pv (V.bin .add v4 (.int .i64 1)) fun v30 =>
    Y10 [v30] h)))
    (B.pv (V.bin .add v3 (.int .i64 1)) fun v21 =>
    Y9 [v21] h)
@[simp] def flatG.l93 (C : CSem) (Q : AVal → AHeap → Prop) (Y9 : List AVal → AHeap → Prop) (v0 v3 : AVal) : List AVal → AHeap → (List AVal → AHeap → Prop) → Prop
  | [v4], h, Y10 => flatG.k91 E C Q Y9 Y10 v0 v3 v4 h
  | _, _, _ => False
@[simp] def flatG.k100 (C : CSem) (Q : AVal → AHeap → Prop) (Y9 : List AVal → AHeap → Prop) (v0 v3 : AVal) (h : AHeap) : Prop :=
  B.pv (V.lenSl v0) fun v18 =>
    B.pv (V.bin .lss v3 v18) fun v19 =>
    B.cond v19
    (LoopR (flatG.l93 E C Q Y9 v0 v3) [(.int .i64 0)] h)
    (B.pv (V.lenSl v0) fun v41 =>
    0 < 1 ∧ B.mks h 24 (some [.nils]) v41 v41 fun v42 h =>
    LoopR (flatG.l82 E C Q v0 v42) [(.int .i64 0)] h)
@[simp] def flatG.l103 (C : CSem) (Q : AVal → AHeap → Prop) (v0 : AVal) : List AVal → AHeap → (List AVal → AHeap → Prop) → Prop
  | [v3], h, Y9 => flatG.k100 E C Q Y9 v0 v3 h
  | _, _, _ => False
def flatG (C : CSem) (v0 : AVal) (h : AHeap) (Q : AVal → AHeap → Prop) : Prop :=
  LoopR (flatG.l103 E C Q v0) [(.int .i64 0)] h
/-- Elements of several cells, compared whole. -/
def opsF (es bytes : Nat) (z : List AVal) (f : Nat) (sh : List Ck) : ElOps where
  es := es; bytes := bytes; z := z; f := f; kp := some es
  ld := fun h p K => B.ldn h p es K
  st := fun h p v K => B.stn h p es v K
  eq := fun h a b K => B.pv (V.binAgg .eql sh a b) fun v => K v h
/-- Elements of one cell. -/
def opsS (bytes : Nat) (z : AVal) (f : Nat) : ElOps where
  es := 1; bytes := bytes; z := [z]; f := f; kp := none
  ld := fun h p K => B.ld h p K
  st := fun h p v K => B.st h p v K
  eq := fun h a b K => B.pv (V.bin .eql a b) fun v => K v h
/-- Elements that hold lists, compared by a function. -/
def opsD (C : CSem) (es bytes : Nat) (z : List AVal) (f g : Nat) : ElOps where
  es := es; bytes := bytes; z := z; f := f; kp := some es
  ld := fun h p K => B.ldn h p es K
  st := fun h p v K => B.stn h p es v K
  eq := fun h a b K => B.call C g [a, b] h K
end
end Go.Ab

/- What is proved: after an append, what stood ahead of it still reads. No conditions. -/
set_option linter.unusedVariables false
set_option linter.unusedSimpArgs false
namespace Go.Ab
variable {C : CSem} {N : Nat → Nat}

def aoff : AVal → Nat
  | .sl _ _ off _ _ _ => off
  | _ => 0
theorem lookup_cut (g hi e : Nat) : ∀ (gens : List (Nat × Nat)), gens.lookup g = some hi → (cutGens gens e).lookup g = some (min hi e)
  | [], h => by cases h
  | (g', k) :: r, h => by
    unfold cutGens
    rw [List.map_cons]
    by_cases e1 : (g == g') = true
    · simp only [List.lookup, e1] at h ⊢
      rw [Option.some.inj h]
    · simp only [Bool.not_eq_true] at e1
      simp only [List.lookup, e1] at h ⊢
      exact lookup_cut g hi e r h
/-- A slice in a block that is appended to, behind its end. -/
theorem SlX.oldApp {h : AHeap} {es : Nat} {x : AVal} {L R : List (List AVal)} (hs : SlX h es x L R) {id : Nat} {b : Blk} (hf : foot x = some id) (hb : h id = some b) {e : Nat} (he : aoff x + L.length * es ≤ e) (hb2 : e ≤ b.cells.length) (news : List AVal) :
    SlX (Ab.upd h id (appBlk b e news)) es x L [] := by
  have h0 := hs.cut
  refine ⟨h0.len, ?_⟩
  rcases h0.at_ with e1 | ⟨id', g, off, cp, b', hi, h1, h1', h2, h3, h4, hh, h5⟩
  · exact .inl e1
  · subst h1
    cases hf
    rw [hb] at h2
    cases h2
    simp only [aoff] at he
    simp only [List.length_nil, Nat.add_zero] at h4 h5 h1'
    have hcells : ((b.cells.take e ++ news).drop off).take (L.length * es) = (L ++ []).flatten := by
      rw [← h5]
      apply List.ext_getElem?
      intro k
      by_cases hk : k < L.length * es
      · rw [List.getElem?_take_of_lt hk, List.getElem?_take_of_lt hk, List.getElem?_drop, List.getElem?_drop, List.getElem?_append_left (by simp; omega), List.getElem?_take_of_lt (by omega)]
      · rw [List.getElem?_take_eq_none (by omega), List.getElem?_take_eq_none (by omega)]
    by_cases hg : g = b.next
    · refine .inr ⟨_, g, off, cp, _, e + news.length, rfl, by simpa using h1', upd_same .., by simp [appBlk, hg, List.lookup], by simp; omega, by simp [appBlk]; omega, ?_⟩
      simpa [appBlk] using hcells
    · refine .inr ⟨_, g, off, cp, _, min hi e, rfl, by simpa using h1', upd_same .., ?_, by simp; omega, by simp [appBlk]; omega, ?_⟩
      · simp only [appBlk, List.lookup]
        rw [show (g == b.next) = false by simpa using hg]
        exact lookup_cut g hi e b.gens h3
      · simpa [appBlk] using hcells

/-- An older slice, read ahead of what was appended to a newer one in its block. -/
structure Old (h : AHeap) (es : Nat) (x : AVal) (L : List (List AVal)) (y : AVal) (M : List (List AVal)) : Prop where
  at_ : SlX h es x L []
  ft : foot x = none ∨ (foot x = foot y ∧ aoff x = aoff y)
  len : L.length ≤ M.length
theorem Old.refl {h : AHeap} {es : Nat} {x : AVal} {L R : List (List AVal)} (hs : SlX h es x L R) : Old h es x L x L := ⟨hs.cut, .inr ⟨rfl, rfl⟩, Nat.le_refl _⟩
theorem Old.other {h h' : AHeap} {es : Nat} {x y z : AVal} {L M : List (List AVal)} (ho : Old h es x L y M) (hb : But z h h') (hne : ∀ id, foot y = some id → foot z ≠ some id) : Old h' es x L y M :=
  ⟨hb.sl ho.at_ fun id hf => hne id (by rcases ho.ft with e | ⟨e, _⟩ <;> rw [e] at hf; cases hf; exact hf), ho.ft, ho.len⟩
theorem Old.mono {h h' : AHeap} {es : Nat} {x y : AVal} {L M : List (List AVal)} (ho : Old h es x L y M) (hle : h.le h') : Old h' es x L y M := ⟨ho.at_.mono hle, ho.ft, ho.len⟩

section
variable {h H h0 : AHeap} {es : Nat} {x : AVal} {L R : List (List AVal)}
/-- Elements appended to a slice in a block of one's own: older slices in it still read. -/
theorem SlX.app2 {bytes : Nat} {M : List (List AVal)} {K : AVal → AHeap → Prop} (ho : SlX h es x L R) (hown : ∀ id b, foot x = some id → h id = some b → b.own = true) (hes : 0 < es) (hM : ∀ p ∈ M, p.length = es) (hb : (L.length + M.length) * bytes ≤ 140737488355328) (hm : L.length + M.length ≤ maxLen)
    (hk : ∀ x' h', SlIs h' es x' (L ++ M) → (∀ id b, foot x' = some id → h' id = some b → b.own = true) → But x h h' → (foot x' = foot x ∨ ∀ id, foot x' = some id → h id = none) → (∀ u U, Old h es u U x L → Old h' es u U x' (L ++ M)) → K x' h') : A.app h es bytes x (some M.flatten) K := by
  have hl := flat_len hM
  have hd : M.flatten.length / es = M.length := by rw [hl, Nat.mul_div_cancel _ hes]
  have hall : ∀ p ∈ (L ++ M) ++ [], p.length = es := fun p hp => by
    rw [List.append_nil] at hp
    rcases List.mem_append.1 hp with hp | hp
    · exact ho.len p (List.mem_append_left _ hp)
    · exact hM p hp
  have fresh : L = [] → foot x = none → (M ≠ [] → (M.flatten.length / es) * bytes ≤ 140737488355328 ∧ M.flatten.length / es ≤ maxLen ∧ A.new h M.flatten fun id h => K (.sl id 0 0 (M.flatten.length / es) es (M.flatten.length / es)) h) := fun e hfx hne => by
    subst e
    rw [hd]
    simp only [List.length_nil, Nat.zero_add] at hb hm
    refine ⟨hb, hm, fun id hid => ?_⟩
    refine hk _ _ ⟨hall, .inr ⟨id, 0, 0, _, blkOf M.flatten, M.flatten.length, by simp only [List.nil_append]; exact rfl, by simp, upd_same .., lookup_self .., by simp [hl], Nat.le_refl _, ?_⟩⟩ (fun j b hj hb' => ?_) (But.of_le _ (le_upd _ hid)) (.inr fun j hj => ?_) (fun u U hu => ⟨hu.at_.mono (le_upd _ hid), .inl ?_, ?_⟩)
    · simp only [List.nil_append, List.append_nil, List.length_nil, Nat.add_zero, ← hl, blkOf, List.drop_zero, List.take_length]
    · cases hj
      rw [upd_same] at hb'; cases hb'; rfl
    · cases hj; exact hid
    · rcases hu.ft with e | ⟨e, _⟩
      · exact e
      · rw [e, hfx]
    · have := hu.len; simp at this; simp [this]
  have hnil : M = [] ∨ M.flatten.length ≠ 0 := by
    cases M with
    | nil => exact .inl rfl
    | cons a r =>
      refine .inr ?_
      rw [hl, List.length_cons, Nat.add_mul]
      omega
  have h0 := ho.cut
  rcases h0.at_ with ⟨e, _, e' | e'⟩ | ⟨id, g, off, cp, b, hi, h1, h1', h2, h3, h4, hh, h5⟩
  · subst e'
    simp only [A.app]
    split
    · rename_i hz
      rcases hnil with hn | hn
      · subst hn; exact hk _ _ (by simpa using h0) (fun _ _ hj => by cases hj) (But.of_le _ (AHeap.le_refl h)) (.inl rfl) (fun u U hu => by simpa using hu)
      · exact absurd hz hn
    · rename_i hz
      exact fresh e rfl fun hn => hz (by rw [hn]; rfl)
  · subst e'
    simp only [A.app]
    split
    · rename_i hz
      rcases hnil with hn | hn
      · subst hn; exact hk _ _ (by simpa using h0) (fun _ _ hj => by cases hj) (But.of_le _ (AHeap.le_refl h)) (.inl rfl) (fun u U hu => by simpa using hu)
      · exact absurd hz hn
    · rename_i hz
      exact fresh e rfl fun hn => hz (by rw [hn]; rfl)
  · have hown' := hown id b (by rw [h1]; rfl) h2
    subst h1
    simp only [List.length_nil, Nat.add_zero, List.append_nil] at h4 h5
    simp only [A.app, h2, h3, hd]
    have hcl : off + L.length * es ≤ b.cells.length := by omega
    have htl : (b.cells.take (off + L.length * es)).length = off + L.length * es := by simp; omega
    refine ⟨trivial, hown', h4, hb, hm, hk _ _ ⟨hall, .inr ⟨id, b.next, off, _, _, off + L.length * es + M.flatten.length, by rw [List.length_append], by simp, upd_same .., lookup_self .., ?_, ?_, ?_⟩⟩ (fun j b1 hj hb1 => ?_) (fun j b1 e1 e2 => ?_) (.inl rfl) (fun u U hu => ⟨?_, ?_, ?_⟩)⟩
    · rw [List.length_append, List.length_nil, Nat.add_zero, Nat.add_mul, hl]; omega
    · simp only [appBlk, List.length_append, htl]; omega
    · simp only [appBlk, List.append_nil, List.length_nil, Nat.add_zero]
      rw [List.drop_append_of_le_length (by omega), List.length_append, Nat.add_mul, ← hl, List.flatten_append, ← h5]
      have e1 : (b.cells.take (off + L.length * es)).drop off = (b.cells.drop off).take (L.length * es) := by
        rw [List.drop_take]; congr 1; omega
      have e2 : ((b.cells.drop off).take (L.length * es)).length = L.length * es := by simp; omega
      rw [e1, List.take_of_length_le]
      rw [List.length_append, e2]; omega
    · cases hj
      rw [upd_same] at hb1; cases hb1; exact hown'
    · rw [upd_other]
      · exact e1
      · intro e; subst e; exact e2 rfl
    · by_cases hf : foot u = some id
      · refine hu.at_.oldApp hf h2 ?_ hcl _
        have e1 := hu.len
        have e2 : aoff u = off := by
          rcases hu.ft with e | ⟨_, e⟩
          · rw [e] at hf; cases hf
          · exact e
        rw [e2]
        have := Nat.mul_le_mul_right es e1
        omega
      · exact hu.at_.upd hf
    · rcases hu.ft with e | ⟨e, e'⟩
      · exact .inl e
      · exact .inr ⟨e, e'⟩
    · have := hu.len; rw [List.length_append]; omega
theorem SlX.appW2 {bytes : Nat} {y : AVal} {M R' : List (List AVal)} {K : AVal → AHeap → Prop} (ho : SlX h es x L R) (hown : ∀ id b, foot x = some id → h id = some b → b.own = true) (hs : SlX h es y M R') (hes : 0 < es) (hb : (L.length + M.length) * bytes ≤ 140737488355328) (hm : L.length + M.length ≤ maxLen)
    (hk : ∀ x' h', SlIs h' es x' (L ++ M) → (∀ id b, foot x' = some id → h' id = some b → b.own = true) → But x h h' → (foot x' = foot x ∨ ∀ id, foot x' = some id → h id = none) → (∀ u U, Old h es u U x L → Old h' es u U x' (L ++ M)) → K x' h') : A.appW h es bytes x y K := by
  unfold A.appW
  rw [hs.srcLen]
  simp only
  rw [hs.rdv]
  exact ho.app2 hown hes (fun p hp => hs.len p (List.mem_append_left _ hp)) hb hm hk
end
section
variable {h0 h h' : AHeap} {l : List Ob}
theorem Owns.ne (ho : Owns h0 h l) {i j : Nat} {a b : Ob} (hi : l[i]? = some a) (hj : l[j]? = some b) (hij : i ≠ j) : ∀ id, a.foot = some id → b.foot ≠ some id := fun id ha hb => by
  rcases Nat.lt_or_gt_of_ne hij with hlt | hgt
  · have := List.pairwise_iff_getElem.1 ho.apart i j (List.getElem?_eq_some_iff.1 hi).1 (List.getElem?_eq_some_iff.1 hj).1 hlt
    rw [(List.getElem?_eq_some_iff.1 hi).2, (List.getElem?_eq_some_iff.1 hj).2] at this
    exact this id ha hb
  · have := List.pairwise_iff_getElem.1 ho.apart j i (List.getElem?_eq_some_iff.1 hj).1 (List.getElem?_eq_some_iff.1 hi).1 hgt
    rw [(List.getElem?_eq_some_iff.1 hj).2, (List.getElem?_eq_some_iff.1 hi).2] at this
    exact this id hb ha
end

/-- Loads that tell something. -/
def Kp (h : AHeap) (p : AVal) (o : Option Nat) : Prop := match o with | none => ∃ x, A.ldv h p = some x | some n => ∃ x, A.ldnv h p n = some x
theorem keepS_same {h : AHeap} {ls : List (AVal × Option Nat)} {K : AVal → AHeap → Prop} {v : AVal} (hl : ∀ p ∈ ls, Kp h p.1 p.2) (hk : K v h) : B.keepS h ls K v h := by
  refine ⟨fun p hp => ?_, hk⟩
  have := hl p hp
  obtain ⟨p, o⟩ := p
  cases o with
  | none => obtain ⟨x, e⟩ := this; exact ⟨x, e, e⟩
  | some n => obtain ⟨x, e⟩ := this; exact ⟨x, e, e⟩
theorem keepS1 {h : AHeap} {p : AVal} {o : Option Nat} {K : AVal → AHeap → Prop} {v : AVal} (h1 : Kp h p o) (hk : K v h) : B.keepS h [(p, o)] K v h :=
  keepS_same (fun q hq => by rw [List.mem_singleton.1 hq]; exact h1) hk
theorem keepS2 {h : AHeap} {p q : AVal} {o u : Option Nat} {K : AVal → AHeap → Prop} {v : AVal} (h1 : Kp h p o) (h2 : Kp h q u) (hk : K v h) : B.keepS h [(p, o), (q, u)] K v h :=
  keepS_same (fun r hr => by rcases List.mem_cons.1 hr with e | hr; rw [e]; exact h1; rw [List.mem_singleton.1 hr]; exact h2) hk

/-! Lists of lists. -/
def upf {α : Type} (f : Nat → α) (k : Nat) (v : α) : Nat → α := fun j => if j = k then v else f j
def Objs (es n : Nat) (xs : Nat → AVal) (D R : Nat → List (List AVal)) : List Ob := (List.range n).map fun j => Ob.sl es (xs j) (D j) (R j)
section
variable {es n k : Nat} {xs : Nat → AVal} {D R : Nat → List (List AVal)}
@[simp] theorem Objs.length : (Objs es n xs D R).length = n := by simp [Objs]
theorem Objs.get (hk : k < n) : (Objs es n xs D R)[k]? = some (.sl es (xs k) (D k) (R k)) := by simp [Objs, hk]
theorem Objs.set {x : AVal} {L M : List (List AVal)} : (Objs es n xs D R).set k (.sl es x L M) = Objs es n (upf xs k x) (upf D k L) (upf R k M) := by
  apply List.ext_getElem?
  intro j
  by_cases hj : j < n
  · rw [Objs.get hj]
    by_cases e : k = j
    · subst e; rw [List.getElem?_set_self (by simpa using hj)]; simp [upf]
    · rw [List.getElem?_set_ne e, Objs.get hj]; simp [upf, Ne.symm e]
  · rw [List.getElem?_eq_none (by simp; omega), List.getElem?_eq_none (by simp; omega)]
theorem Objs.congr {ys : Nat → AVal} {E S : Nat → List (List AVal)} (h : ∀ j, j < n → xs j = ys j ∧ D j = E j ∧ R j = S j) : Objs es n xs D R = Objs es n ys E S :=
  List.map_congr_left fun j hj => by obtain ⟨a, b, c⟩ := h j (by simpa using hj); rw [a, b, c]
theorem Objs.getA {l : List Ob} (hk : k < n) : (Objs es n xs D R ++ l)[k]? = some (.sl es (xs k) (D k) (R k)) := by
  rw [List.getElem?_append_left (by simpa using hk)]; exact Objs.get hk
theorem Objs.setA {l : List Ob} (hk : k < n) {x : AVal} {L M : List (List AVal)} : (Objs es n xs D R ++ l).set k (.sl es x L M) = Objs es n (upf xs k x) (upf D k L) (upf R k M) ++ l := by
  rw [List.set_append_left _ _ (by simpa using hk), Objs.set]
theorem Objs.getL {o : Ob} : (Objs es n xs D R ++ [o])[n]? = some o := by
  rw [List.getElem?_append_right (by simp)]; simp
theorem Objs.setL {o o' : Ob} : (Objs es n xs D R ++ [o]).set n o' = Objs es n xs D R ++ [o'] := by
  rw [List.set_append_right _ _ (by simp)]; simp
end
theorem Owns.cutR {h0 h : AHeap} {es n : Nat} {xs : Nat → AVal} {D R : Nat → List (List AVal)} {l : List Ob} (ho : Owns h0 h (Objs es n xs D R ++ l)) : Owns h0 h (Objs es n xs D (fun _ => []) ++ l) := by
  have mem : ∀ o ∈ Objs es n xs D (fun _ => []), ∃ o' ∈ Objs es n xs D R, o'.foot = o.foot ∧ (o'.at h → o.at h) := fun o hm => by
    obtain ⟨j, hj, rfl⟩ := List.mem_map.1 hm
    exact ⟨_, List.mem_map.2 ⟨j, hj, rfl⟩, rfl, fun h => SlX.cut h⟩
  refine ⟨ho.le, fun o hm => ?_, fun o hm => ?_, ?_⟩
  · rcases List.mem_append.1 hm with hm | hm
    · obtain ⟨o', h1, _, h3⟩ := mem o hm
      exact h3 (ho.is _ (List.mem_append_left _ h1))
    · exact ho.is _ (List.mem_append_right _ hm)
  · rcases List.mem_append.1 hm with hm | hm
    · obtain ⟨o', h1, h2, _⟩ := mem o hm
      rw [← h2]
      exact ho.own _ (List.mem_append_left _ h1)
    · exact ho.own _ (List.mem_append_right _ hm)
  · obtain ⟨a, b, c⟩ := List.pairwise_append.1 ho.apart
    refine List.pairwise_append.2 ⟨?_, b, fun x hx y hy => ?_⟩
    · unfold Objs at a ⊢
      rw [List.pairwise_map] at a ⊢
      exact a.imp fun h => h
    · obtain ⟨o', h1, h2, _⟩ := mem x hx
      rw [← h2]
      exact c o' h1 y hy
end Go.Ab

/- What is proved: what the statements ask of lists that lie apart holds of lists of one's own, whatever the elements. No conditions. -/
set_option linter.unusedVariables false
set_option linter.unusedSimpArgs false
namespace Go.Ab
variable {C : CSem} {N : Nat → Nat}

/-- What is asked of a kind of elements: marks m (their cells), v (as values). -/
structure ElSpec (C : CSem) (E : ElOps) (m : Int → Int → List AVal) (v : Int → Int → AVal) : Prop where
  pos : 0 < E.es
  small : E.bytes ≤ 1000
  len : ∀ k i, (m k i).length = E.es
  zlen : E.z.length = E.es
  new : ∀ k i, fillL [(0, E.kp, v k i)] (repL 1 E.z) = some (m k i)
  call : ∀ (k i : Int) (h : AHeap) (Q : AVal → AHeap → Prop), Q (v k i) h → C E.f [.int .i64 k, .int .i64 i] h Q
  ld : ∀ {h : AHeap} {x : AVal} {L R : List (List AVal)} {i : Nat} {k j : Int} {K : AVal → Prop}, SlX h E.es x L R → L[i]? = some (m k j) → K (v k j) → E.ld h (elp E.es x i 0) K
  kpt : ∀ {h : AHeap} {x : AVal} {L R : List (List AVal)} {i : Nat} {k j : Int}, SlX h E.es x L R → L[i]? = some (m k j) → Kp h (elp E.es x i 0) E.kp
  st : ∀ {h : AHeap} {x : AVal} {L R : List (List AVal)} {i : Nat} {c : List AVal} {k j : Int} {K : AHeap → Prop}, SlX h E.es x L R → (∀ id b, foot x = some id → h id = some b → b.own = true) → L[i]? = some c →
    (∀ h', SlX h' E.es x (L.set i (m k j)) R → (∀ id b, foot x = some id → h' id = some b → b.own = true) → But x h h' → K h') → E.st h (elp E.es x i 0) (v k j) K
  eq : ∀ {h : AHeap} {k i : Int} {K : AVal → AHeap → Prop}, K (.bool true) h → E.eq h (v k i) (v k i) K

def mkTo (m : Int → Int → List AVal) (k n : Nat) : List (List AVal) := (List.range n).map fun (i : Nat) => m (k : Int) (i : Int)
section
variable {m : Int → Int → List AVal} {k n i : Nat}
@[simp] theorem mkTo_len : (mkTo m k n).length = n := by simp [mkTo]
theorem mkTo_get (hi : i < n) : (mkTo m k n)[i]? = some (m (k : Int) (i : Int)) := by simp [mkTo, hi]
theorem mkTo_succ : mkTo m k (n + 1) = mkTo m k n ++ [m (k : Int) (n : Int)] := by simp [mkTo, List.range_succ]
@[simp] theorem mkTo_zero : mkTo m k 0 = [] := rfl
/-- Marks laid over a list, one by one. -/
theorem mkTo_over {D : List (List AVal)} (hi : i < D.length) : (mkTo m k i ++ D.drop i).set i (m (k : Int) (i : Int)) = mkTo m k (i + 1) ++ D.drop (i + 1) := by
  rw [List.set_append_right _ _ (by simp), mkTo_len, Nat.sub_self, mkTo_succ, List.drop_eq_getElem_cons hi, List.set_cons_zero, List.append_assoc]
  rfl
theorem mkTo_at {D : List (List AVal)} (hi : i < D.length) : (mkTo m k i ++ D.drop i)[i]? = some D[i] := by
  rw [List.getElem?_append_right (by simp), mkTo_len, Nat.sub_self, List.getElem?_drop]; simp [hi]
end
theorem upf_self {α : Type} (f : Nat → α) (k : Nat) (v : α) : upf f k v k = v := by simp [upf]
theorem upf_ne {α : Type} (f : Nat → α) {k j : Nat} (v : α) (h : j ≠ k) : upf f k v j = f j := by simp [upf, h]
theorem upf_same {α : Type} (f : Nat → α) (k : Nat) : upf f k (f k) = f := by funext j; unfold upf; split <;> simp_all
theorem upf_const {α : Type} (k : Nat) (v : α) : upf (fun _ => v) k v = fun _ => v := by funext j; unfold upf; split <;> rfl
theorem upf_upf {α : Type} (f : Nat → α) (k : Nat) (v w : α) : upf (upf f k v) k w = upf f k w := by funext j; unfold upf; split <;> rfl

section
variable {h : AHeap} {x : AVal} {n k : Nat} {xs : Nat → AVal} {W : List (List AVal)} (hx : SlX h 1 x (fills n fun j => [xs j]) W)
include hx
theorem ls_len : V.lenSl x = some (.int .i64 n) := by rw [hx.lenSl, fills_len]
theorem ls_idx (hk : k < n) : V.idxS 1 x (.int .i64 (k : Int)) = some (elp 1 x k 0) := hx.idxN (by simpa using hk)
theorem ls_ld (hk : k < n) : A.ldv h (elp 1 x k 0) = some (xs k) := by rw [hx.ldv (fills_get _ hk) (by omega)]; rfl
theorem ls_kp (hk : k < n) : Kp h (elp 1 x k 0) none := ⟨_, ls_ld hx hk⟩
end

/-- The lists as they were (marked), the newer ones, and the list of these. -/
structure FS (E : ElOps) (m : Int → Int → List AVal) (h0 h : AHeap) (v5 : AVal) (n : Nat) (xs : Nat → AVal) (len : Nat → Nat) (ys : Nat → AVal) (F : Nat → List (List AVal)) (gs : Nat → AVal) : Prop where
  own : Owns h0 h (Objs E.es n ys F (fun _ => []) ++ [.sl 1 v5 (fills n fun j => [gs j]) []])
  old : ∀ j, j < n → Old h E.es (xs j) (mkTo m j (len j)) (ys j) (F j)

section
variable {E : ElOps} {m : Int → Int → List AVal} {v : Int → Int → AVal} {h0 h h' : AHeap} {x v5 : AVal} {n k : Nat} {xs ys gs : Nat → AVal} {len : Nat → Nat} {F : Nat → List (List AVal)} {W : List (List AVal)} {Q : AVal → AHeap → Prop}

theorem FS.grow (fs : FS E m h0 h v5 n xs len ys F gs) (hle : h.le h') : FS E m h0 h' v5 n xs len ys F gs := ⟨fs.own.grow hle, fun j hj => (fs.old j hj).mono hle⟩
theorem FS.gAt (fs : FS E m h0 h v5 n xs len ys F gs) : SlX h 1 v5 (fills n fun j => [gs j]) [] := fs.own.slAt n Objs.getL
theorem FS.yAt (fs : FS E m h0 h v5 n xs len ys F gs) (hk : k < n) : SlX h E.es (ys k) (F k) [] := fs.own.slAt k (Objs.getA hk)
theorem FS.turn (fs : FS E m h0 h v5 n xs len ys F gs) (hk : k < n) {y : AVal} {L : List (List AVal)} (h1 : SlX h' E.es y L []) (h2 : ∀ id b, foot y = some id → h' id = some b → b.own = true)
    (h3 : ∀ j b, h j = some b → foot (ys k) ≠ some j → h' j = some b) (h4 : foot y = foot (ys k) ∨ ∀ id, foot y = some id → h id = none) (h5 : Old h' E.es (xs k) (mkTo m k (len k)) y L) : FS E m h0 h' v5 n xs len (upf ys k y) (upf F k L) gs := by
  refine ⟨?_, fun j hj => ?_⟩
  · have := fs.own.turn k (Objs.getA hk) (o' := .sl E.es y L []) h1 h2 h3 h4
    rwa [Objs.setA hk, upf_const] at this
  · by_cases e : j = k
    · subst e; rw [upf_self, upf_self]; exact h5
    · rw [upf_ne _ _ e, upf_ne _ _ e]
      exact (fs.old j hj).other (z := ys k) h3 (fs.own.ne (Objs.getA hj) (Objs.getA hk) e)
theorem FS.store (fs : FS E m h0 h v5 n xs len ys F gs) (hk : k < n) {y : AVal} (hy : y.isCell = true) {K : AHeap → Prop} (hK : ∀ h', FS E m h0 h' v5 n xs len ys F (upf gs k y) → K h') : A.st h (elp 1 v5 k 0) y K := by
  refine fs.own.st n Objs.getL (fills_get _ hk) (by omega) hy fun h' ho hb => hK h' ⟨?_, fun j hj => ?_⟩
  · rw [Objs.setL] at ho
    have e : (fills n fun j => [gs j]).set k ([gs k].set 0 y) = fills n fun j => [upf gs k y j] := by
      rw [fills_set]
      refine fills_congr fun j hj => ?_
      unfold upf
      split <;> rfl
    rwa [e] at ho
  · exact (fs.old j hj).other hb (fs.own.ne (Objs.getA hj) Objs.getL (by omega))
theorem FS.push (S : ElSpec C E m v) (fs : FS E m h0 h v5 n xs len ys F gs) (hk : k < n) {cs : List AVal} (hcs : cs.length = E.es) (hl : (F k).length ≤ 100000100) {K : AVal → AHeap → Prop}
    (hK : ∀ y h', FS E m h0 h' v5 n xs len (upf ys k y) (upf F k (F k ++ [cs])) gs → K y h') : A.newO h (some cs) fun i h => A.appW h E.es E.bytes (ys k) (.sl i 0 0 1 E.es 1) K := fun i hi => by
  have fg := fs.grow (le_upd (blkOf cs) hi)
  have hmul := Nat.mul_le_mul (show (F k).length + 1 ≤ 100000101 by omega) S.small
  refine (fg.yAt hk).appW2 (fg.own.ownAt k (Objs.getA hk)) (M := [cs]) (R' := []) (SlX.lit (upd_same ..) (by simpa using hcs) rfl (by simp) (by simp)) S.pos (by simp only [List.length_singleton]; omega) (by simp [maxLen]; omega) fun y h' h1 h2 h3 h4 h5 => ?_
  exact hK y h' (fg.turn hk h1 h2 h3 h4 (h5 _ _ (fg.old k hk)))

theorem flat5 (S : ElSpec C E m v) (hx : SlX h0 1 x (fills n fun j => [xs j]) W) (fs : FS E m h0 h v5 n xs len ys F gs) (hn : n ≤ 100000000) (hl : ∀ j, j < n → len j ≤ 100000000)
    (hgs : ∀ j, j < n → gs j = ys j) (hF : ∀ j i, j < n → i < len j → (F j)[i]? = some (m j i)) (hq : ∀ h', h0.le h' → Q (.bool true) h') : LoopR (flatG.l15 E C Q x v5) [.int .i64 0] h := by
  have hx' := hx.mono fs.own.le
  refine LoopR.intro (fun t vs hh => ∃ k : Nat, k + t = n ∧ vs = [.int .i64 k] ∧ hh = h) n ?_ ⟨0, by simp, by simp, rfl⟩
  rintro Y t vs hh ⟨k, ht, rfl, rfl⟩ hY
  simp -dsimp [ls_len hx']
  refine B.cond_bool (fun hb => ?_) (fun hb => ?_) <;> simp -dsimp at hb ⊢
  · refine LoopR.intro (fun t vs h2 => ∃ i : Nat, i + t = len k ∧ vs = [.int .i64 i] ∧ h2 = hh) (len k) ?_ ⟨0, by simp, by simp, rfl⟩
    rintro Z t' vs h3 ⟨i, hi, rfl, rfl⟩ hZ
    have hold := (fs.old k hb).at_
    have hlk := hl k hb
    have hlx := hold.lenSl
    rw [mkTo_len] at hlx
    simp -dsimp [ls_idx hx' hb, ls_ld hx' hb, hlx]
    refine B.cond_bool (fun hc => ?_) (fun hc => ?_) <;> simp -dsimp at hc ⊢
    · have hyk := fs.yAt hb
      have hFi := hF k i hb hc
      have e1 : V.idxS E.es (xs k) (.int .i64 (i : Int)) = some (elp E.es (xs k) i 0) := hold.idxN (by simpa using hc)
      have e2 : V.idxS E.es (ys k) (.int .i64 (i : Int)) = some (elp E.es (ys k) i 0) := hyk.idxN (List.getElem?_eq_some_iff.1 hFi).1
      have e3 := ls_ld fs.gAt hb
      rw [hgs k hb] at e3
      simp -dsimp only [ls_idx hx' hb, ls_ld hx' hb, e1, B.pv_some, B.ld_eq]
      refine S.ld hold (mkTo_get hc) ?_
      refine S.call _ _ _ _ (keepS2 (ls_kp hx' hb) (S.kpt hold (mkTo_get hc)) ?_)
      refine S.eq ?_
      simp -dsimp [ls_idx fs.gAt hb, e3, e2]
      refine S.ld hyk hFi ?_
      refine S.call _ _ _ _ (keepS2 (ls_kp fs.gAt hb) (S.kpt hyk hFi) ?_)
      simp -dsimp
      refine S.eq ?_
      simp -dsimp [inc64 (n := i) (by omega)]
      exact hZ (len k - (i + 1)) _ _ (by omega) ⟨i + 1, by omega, by simp, rfl⟩
    · simp -dsimp [inc64 (n := k) (by omega)]
      exact hY (n - (k + 1)) _ _ (by omega) ⟨k + 1, by omega, by simp, rfl⟩
  · exact hq _ fs.own.le

theorem flat4 (S : ElSpec C E m v) (hx : SlX h0 1 x (fills n fun j => [xs j]) W) (fs : FS E m h0 h v5 n xs len ys F gs) (hn : n ≤ 100000000) (hl : ∀ j, j < n → len j ≤ 100000000)
    (hgs : ∀ j, j < n → gs j = ys j) (hF : ∀ j i, j < n → i < len j → (F j)[i]? = some (m j i)) (hq : ∀ h', h0.le h' → Q (.bool true) h') : LoopR (flatG.l40 E C Q x v5) [.int .i64 0] h := by
  refine LoopR.intro (fun t vs hh => ∃ (k : Nat) (ys gs : Nat → AVal) (F : Nat → List (List AVal)), k + t = n ∧ vs = [.int .i64 k] ∧ FS E m h0 hh v5 n xs len ys F gs ∧ (∀ j, j < n → gs j = ys j) ∧ ∀ j i, j < n → i < len j → (F j)[i]? = some (m j i)) n ?_
    ⟨0, ys, gs, F, by simp, by simp, fs, hgs, hF⟩
  rintro Y t vs h ⟨k, ys, gs, F, ht, rfl, fs, hgs, hF⟩ hY
  have hx' := hx.mono fs.own.le
  simp -dsimp [ls_len hx']
  refine B.cond_bool (fun hb => ?_) (fun hb => ?_) <;> simp -dsimp at hb ⊢
  · refine ⟨S.pos, (Owns.start h).mks (es := E.es) S.zlen (by omega) (by omega) (by have := S.small; omega) (by omega) fun y h1 ho1 => ?_⟩
    simp only [List.nil_append] at ho1
    refine LoopR.intro (fun t vs hh => ∃ i : Nat, i + t = 64 ∧ vs = [.int .i64 i] ∧ ∃ R, Owns h hh [.sl E.es y (mkTo m (k + n : Nat) i ++ (fills 64 fun _ => E.z).drop i) R]) 64 ?_ ⟨0, by simp, by simp, _, by simpa using ho1⟩
    rintro Z t' vs hh ⟨i, hi, rfl, R, ho⟩ hZ
    simp -dsimp
    refine B.cond_bool (fun hc => ?_) (fun hc => ?_) <;> simp -dsimp at hc ⊢
    · have e1 : IntKind.i64.wrap ((k : Int) + n) = ((k + n : Nat) : Int) := by rw [wrap_i64 (by omega) (by omega)]; omega
      have hxx := hx'.mono ho.le
      have hi64 : i < (fills 64 fun _ => E.z).length := by simp; omega
      have hlt : i < (mkTo m (k + n : Nat) i ++ (fills 64 fun _ => E.z).drop i).length := by simp; omega
      simp -dsimp only [ls_len hxx, B.pv_some, V.bin_add, e1]
      refine S.call _ _ _ _ ?_
      simp -dsimp only [(ho.slAt 0 rfl).idxN hlt, B.pv_some]
      refine S.st (ho.slAt 0 rfl) (ho.ownAt 0 rfl) (mkTo_at hi64) fun h2 h3 h4 h5 => ?_
      rw [mkTo_over hi64] at h3
      simp -dsimp [inc64 (n := i) (by omega)]
      exact hZ (64 - (i + 1)) _ _ (by omega) ⟨i + 1, by omega, by simp, R, ho.turn 0 rfl (o' := .sl E.es y _ R) h3 h4 h5 (.inl rfl)⟩
    · have hi64 : i = 64 := by omega
      subst hi64
      have hd : (fills 64 fun _ => E.z).drop 64 = [] := List.drop_of_length_le (by simp)
      rw [hd, List.append_nil] at ho
      have fh := fs.grow ho.le
      have hold := fh.old k hb
      have hxx := hx'.mono ho.le
      have hlk := hl k hb
      have hmul := Nat.mul_le_mul (show len k + 64 ≤ 100000064 by omega) S.small
      simp -dsimp [ls_idx hxx hb, ls_ld hxx hb]
      refine hold.at_.appW2 (fun id b e1 e2 => ?_) (ho.slAt 0 rfl) S.pos (by simp only [mkTo_len]; omega) (by simp [maxLen]; omega) fun y' h2 h3 h4 h5 h6 h7 => ?_
      · rcases hold.ft with e | ⟨e, _⟩
        · rw [e] at e1; cases e1
        · rw [e] at e1; exact fh.own.ownAt k (Objs.getA hb) id b e1 e2
      · have f2 : FS E m h0 h2 v5 n xs len (upf ys k y') (upf F k (mkTo m k (len k) ++ mkTo m (k + n : Nat) 64)) gs := fh.turn hb h3 h4 (fun j b e1 e2 => h5 j b e1 fun e3 => by
            rcases hold.ft with e | ⟨e, _⟩
            · rw [e] at e3; cases e3
            · rw [e] at e3; exact e2 e3) (by
            rcases h6 with e | e
            · rcases hold.ft with e' | ⟨e', _⟩
              · exact .inr fun id hid => by rw [e, e'] at hid; cases hid
              · exact .inl (e.trans e')
            · exact .inr e) (h7 _ _ (Old.refl hold.at_))
        simp -dsimp [ls_idx f2.gAt hb]
        refine f2.store hb h3.isCell fun h8 f3 => ?_
        simp -dsimp [inc64 (n := k) (by omega)]
        refine hY (n - (k + 1)) _ _ (by omega) ⟨k + 1, _, _, _, by omega, by simp, f3, fun j hj => ?_, fun j i hj hi => ?_⟩
        · by_cases e : j = k
          · subst e; rw [upf_self, upf_self]
          · rw [upf_ne _ _ e, upf_ne _ _ e]; exact hgs j hj
        · by_cases e : j = k
          · subst e
            rw [upf_self, List.getElem?_append_left (by simpa using hi)]
            exact mkTo_get hi
          · rw [upf_ne _ _ e]; exact hF j i hj hi
  · exact flat5 S hx fs hn hl hgs hF hq

theorem flat3 (S : ElSpec C E m v) (hx : SlX h0 1 x (fills n fun j => [xs j]) W) (fs : FS E m h0 h v5 n xs len ys F gs) (hn : n ≤ 100000000) (hl : ∀ j, j < n → len j ≤ 100000000)
    (hgs : ∀ j, j < n → gs j = ys j) (hF : ∀ j, j < n → F j = mkTo m j (len j + 64)) (hq : ∀ h', h0.le h' → Q (.bool true) h') : LoopR (flatG.l59 E C Q x v5) [.int .i64 0] h := by
  have hx' := hx.mono fs.own.le
  refine LoopR.intro (fun t vs hh => ∃ k : Nat, k + t = n ∧ vs = [.int .i64 k] ∧ hh = h) n ?_ ⟨0, by simp, by simp, rfl⟩
  rintro Y t vs hh ⟨k, ht, rfl, rfl⟩ hY
  simp -dsimp [ls_len hx']
  refine B.cond_bool (fun hb => ?_) (fun hb => ?_) <;> simp -dsimp at hb ⊢
  · refine LoopR.intro (fun t vs h2 => ∃ i : Nat, i + t = len k + 64 ∧ vs = [.int .i64 i] ∧ h2 = hh) (len k + 64) ?_ ⟨0, by simp, by simp, rfl⟩
    rintro Z t' vs h3 ⟨i, hi, rfl, rfl⟩ hZ
    have hold := (fs.old k hb).at_
    have hlk := hl k hb
    have hlx := hold.lenSl
    rw [mkTo_len] at hlx
    have hyk := fs.yAt hb
    rw [hF k hb] at hyk
    have hly := hyk.lenSl
    rw [mkTo_len] at hly
    have e3 := ls_ld fs.gAt hb
    rw [hgs k hb] at e3
    simp -dsimp [ls_idx fs.gAt hb, e3, hly]
    refine B.cond_bool (fun hc => ?_) (fun hc => ?_)
    · have hc : i < len k + 64 := by simp at hc; omega
      have e2 : V.idxS E.es (ys k) (.int .i64 (i : Int)) = some (elp E.es (ys k) i 0) := hyk.idxN (by simpa using hc)
      simp -dsimp only [ls_idx fs.gAt hb, e3, e2, B.pv_some, B.ld_eq]
      refine S.ld hyk (mkTo_get hc) ?_
      refine S.call _ _ _ _ (keepS2 (ls_kp fs.gAt hb) (S.kpt hyk (mkTo_get hc)) ?_)
      refine S.eq ?_
      by_cases hd : i < len k
      · have e1 : V.idxS E.es (xs k) (.int .i64 (i : Int)) = some (elp E.es (xs k) i 0) := hold.idxN (by simpa using hd)
        simp -dsimp [ls_idx hx' hb, ls_ld hx' hb, hlx, hd, e1]
        refine S.ld hold (mkTo_get hd) ?_
        refine S.call _ _ _ _ (keepS2 (ls_kp hx' hb) (S.kpt hold (mkTo_get hd)) ?_)
        simp -dsimp
        refine S.eq ?_
        simp -dsimp [inc64 (n := i) (by omega)]
        exact hZ (len k + 64 - (i + 1)) _ _ (by omega) ⟨i + 1, by omega, by simp, rfl⟩
      · simp -dsimp [ls_idx hx' hb, ls_ld hx' hb, hlx, hd]
        simp -dsimp [inc64 (n := i) (by omega)]
        exact hZ (len k + 64 - (i + 1)) _ _ (by omega) ⟨i + 1, by omega, by simp, rfl⟩
    · simp -dsimp [inc64 (n := k) (by omega)]
      exact hY (n - (k + 1)) _ _ (by omega) ⟨k + 1, by omega, by simp, rfl⟩
  · exact flat4 S hx fs hn hl hgs (fun j i hj hi => by rw [hF j hj]; exact mkTo_get (by omega)) hq

theorem flat2 (S : ElSpec C E m v) (hx : SlX h0 1 x (fills n fun j => [xs j]) W) (fs : FS E m h0 h v5 n xs len xs (fun j => mkTo m j (len j)) gs) (hn : n ≤ 100000000) (hl : ∀ j, j < n → len j ≤ 100000000)
    (hq : ∀ h', h0.le h' → Q (.bool true) h') : LoopR (flatG.l82 E C Q x v5) [.int .i64 0] h := by
  refine LoopR.intro (fun t vs hh => ∃ (k : Nat) (ys gs : Nat → AVal) (F : Nat → List (List AVal)), k + t = n ∧ vs = [.int .i64 k] ∧ FS E m h0 hh v5 n xs len ys F gs ∧ (∀ j, j < k → gs j = ys j ∧ F j = mkTo m j (len j + 64)) ∧ ∀ j, k ≤ j → ys j = xs j ∧ F j = mkTo m j (len j)) n ?_
    ⟨0, _, gs, _, by simp, by simp, fs, by simp, fun j _ => ⟨rfl, rfl⟩⟩
  rintro Y t vs h ⟨k, ys, gs, F, ht, rfl, fs, hlo, hhi⟩ hY
  have hx' := hx.mono fs.own.le
  simp -dsimp [ls_len hx']
  refine B.cond_bool (fun hb => ?_) (fun hb => ?_) <;> simp -dsimp at hb ⊢
  · have hk := hhi k (Nat.le_refl k)
    have hlk := hl k hb
    simp -dsimp [ls_idx hx' hb, ls_ld hx' hb]
    refine LoopR.intro (fun t vs hh => ∃ (i : Nat) (y : AVal), i + t = 64 ∧ vs = [y, .int .i64 i] ∧ FS E m h0 hh v5 n xs len (upf ys k y) (upf F k (mkTo m k (len k + i))) gs) 64 ?_ ⟨0, xs k, by simp, by simp, ?_⟩
    · rintro Z t' vs hh ⟨i, y, hi, rfl, f1⟩ hZ
      have hx1 := hx.mono f1.own.le
      have hold := (f1.old k hb).at_
      have hlx := hold.lenSl
      rw [mkTo_len] at hlx
      have ey : upf ys k y k = y := upf_self ..
      simp -dsimp
      refine B.cond_bool (fun hc => ?_) (fun hc => ?_) <;> simp -dsimp at hc ⊢
      · have e1 : IntKind.i64.wrap ((len k : Int) + i) = ((len k + i : Nat) : Int) := by rw [wrap_i64 (by omega) (by omega)]; omega
        simp -dsimp only [ls_idx hx1 hb, ls_ld hx1 hb, hlx, B.pv_some, B.ld_eq, V.bin_add, e1]
        refine S.call _ _ _ _ ?_
        rw [S.new]
        have := f1.push S hb (cs := m k (len k + i : Nat)) (S.len _ _) (by rw [upf_self, mkTo_len]; omega) (K := fun v68 h => B.pv (V.bin .add (.int .i64 (i : Int)) (.int .i64 1)) fun v56 => Z [v68, v56] h) fun y' h2 f2 => ?_
        · rw [ey] at this; exact this
        · simp -dsimp [inc64 (n := i) (by omega)]
          refine hZ (64 - (i + 1)) _ _ (by omega) ⟨i + 1, y', by omega, by simp, ?_⟩
          rw [upf_upf, upf_upf, upf_self, ← mkTo_succ] at f2
          exact f2
      · have hi64 : i = 64 := by omega
        subst hi64
        simp -dsimp [ls_idx f1.gAt hb]
        have hyc := (f1.yAt hb).isCell
        rw [ey] at hyc
        refine f1.store hb hyc fun h2 f2 => ?_
        simp -dsimp [inc64 (n := k) (by omega)]
        refine hY (n - (k + 1)) _ _ (by omega) ⟨k + 1, _, _, _, by omega, by simp, f2, fun j hj => ?_, fun j hj => ?_⟩
        · by_cases e : j = k
          · subst e; rw [upf_self, upf_self, upf_self]; exact ⟨rfl, rfl⟩
          · rw [upf_ne _ _ e, upf_ne _ _ e, upf_ne _ _ e]; exact hlo j (by omega)
        · rw [upf_ne _ _ (by omega), upf_ne _ _ (by omega)]; exact hhi j (by omega)
    · have e1 : upf ys k (xs k) = ys := by rw [← hk.1, upf_same]
      have e2 : upf F k (mkTo m k (len k + 0)) = F := by rw [Nat.add_zero, ← hk.2, upf_same]
      rw [e1, e2]; exact fs
  · have : k = n := by omega
    subst this
    exact flat3 S hx fs hn hl (fun j hj => (hlo j hj).1) (fun j hj => (hlo j hj).2) hq

/-- Lists of one's own, each in a block of its own, lie apart. -/
theorem flatG_spec (S : ElSpec C E m v) {D R : Nat → List (List AVal)} (hx : SlX h0 1 x (fills n fun j => [xs j]) W) (ho : Owns h0 h (Objs E.es n xs D R)) (hn : n ≤ 100000000) (hl : ∀ j, j < n → (D j).length ≤ 100000000)
    (hq : ∀ h', h0.le h' → Q (.bool true) h') : flatG E C x h Q := by
  refine LoopR.intro (fun t vs hh => ∃ (k : Nat) (G : Nat → List (List AVal)), k + t = n ∧ vs = [.int .i64 k] ∧ Owns h0 hh (Objs E.es n xs G R) ∧ (∀ j, j < k → G j = mkTo m j (D j).length) ∧ ∀ j, k ≤ j → G j = D j) n ?_
    ⟨0, D, by simp, by simp, ho, by simp, fun j _ => rfl⟩
  rintro Y t vs h ⟨k, G, ht, rfl, ho, hlo, hhi⟩ hY
  have hx' := hx.mono ho.le
  simp -dsimp [ls_len hx']
  refine B.cond_bool (fun hb => ?_) (fun hb => ?_) <;> simp -dsimp at hb ⊢
  · have hlk := hl k hb
    have hgk := hhi k (Nat.le_refl k)
    refine LoopR.intro (fun t vs hh => ∃ i : Nat, i + t = (D k).length ∧ vs = [.int .i64 i] ∧ Owns h0 hh (Objs E.es n xs (upf G k (mkTo m k i ++ (D k).drop i)) R)) (D k).length ?_ ⟨0, by simp, by simp, ?_⟩
    · rintro Z t' vs hh ⟨i, hi, rfl, ho1⟩ hZ
      have hx1 := hx.mono ho1.le
      have hxk := ho1.slAt k (Objs.get hb)
      rw [upf_self] at hxk
      have hlx := hxk.lenSl
      have hll : (mkTo m k i ++ (D k).drop i).length = (D k).length := by simp; omega
      rw [hll] at hlx
      simp -dsimp [ls_idx hx1 hb, ls_ld hx1 hb, hlx]
      refine B.cond_bool (fun hc => ?_) (fun hc => ?_) <;> simp -dsimp at hc ⊢
      · have hlt : i < (mkTo m k i ++ (D k).drop i).length := by omega
        simp -dsimp only [ls_idx hx1 hb, ls_ld hx1 hb, B.pv_some, B.ld_eq]
        refine S.call _ _ _ _ (keepS1 (ls_kp hx1 hb) ?_)
        simp -dsimp only [hxk.idxN hlt, B.pv_some]
        refine S.st hxk (ho1.ownAt k (Objs.get hb)) (mkTo_at hc) fun h2 h3 h4 h5 => ?_
        rw [mkTo_over hc] at h3
        have h6 := ho1.turn k (Objs.get hb) (o' := .sl E.es (xs k) _ (R k)) h3 h4 h5 (.inl rfl)
        rw [Objs.set, upf_same, upf_same, upf_upf] at h6
        simp -dsimp [inc64 (n := i) (by omega)]
        exact hZ ((D k).length - (i + 1)) _ _ (by omega) ⟨i + 1, by omega, by simp, h6⟩
      · have hie : i = (D k).length := by omega
        subst hie
        rw [List.drop_length, List.append_nil] at ho1
        simp -dsimp [inc64 (n := k) (by omega)]
        refine hY (n - (k + 1)) _ _ (by omega) ⟨k + 1, _, by omega, by simp, ho1, fun j hj => ?_, fun j hj => ?_⟩
        · by_cases e : j = k
          · subst e; rw [upf_self]
          · rw [upf_ne _ _ e]; exact hlo j (by omega)
        · rw [upf_ne _ _ (by omega)]; exact hhi j (by omega)
    · simp only [mkTo_zero, List.nil_append, List.drop_zero]
      rw [← hgk, upf_same]; exact ho
  · have : k = n := by omega
    subst this
    simp -dsimp only [ls_len hx', B.pv_some]
    refine ⟨Nat.one_pos, ?_⟩
    refine ho.mks (bytes := 24) (es := 1) (n := k) (c := k) (z := [.nils]) rfl (by omega) (by omega) (by omega) (by omega) fun y h1 ho1 => ?_
    have e1 : ((k : Int)).toNat = k := by simp
    rw [e1, Nat.sub_self, fills_zero] at ho1
    have ho2 := ho1.cutR
    rw [Objs.congr (ys := xs) (E := fun j => mkTo m j (D j).length) (S := fun _ => []) fun j hj => ⟨rfl, hlo j hj, rfl⟩] at ho2
    exact flat2 S hx ⟨ho2, fun j hj => Old.refl (ho2.slAt j (Objs.getA hj))⟩ hn (fun j hj => hl j hj) hq
end
end Go.Ab

/- What is proved: contracts of what the statements share about lists of numbers, texts: are they the same, lent with marks, kept; lists written over, and copied. No conditions. -/
set_option linter.unusedVariables false
set_option linter.unusedSimpArgs false
namespace Go.Ab
variable {C : CSem} {N : Nat → Nat}

/-- A type whose values stand as one cell. -/
structure Scal (T : Type) [DecidableEq T] where
  c : T → AVal
  cell : ∀ t, (c t).isCell = true
  eql : ∀ a b, V.bin .eql (c a) (c b) = some (.bool (decide (a = b)))
  neq : ∀ a b, V.bin .neq (c a) (c b) = some (.bool (!decide (a = b)))
theorem SlX.cell {h : AHeap} {x c : AVal} {L R : List (List AVal)} {i : Nat} (hs : SlX h 1 x L R) (hc : L[i]? = some [c]) : A.ldv h (elp 1 x i 0) = some c := by
  rw [hs.ldv hc (by omega)]; rfl
section
variable {T : Type} [DecidableEq T] (F : Scal T)
abbrev Scal.cs (t : T) : List AVal := [F.c t]

end
/-- A list is written over: nothing else is turned. -/
@[simp] def overG.k1 (C : CSem) (es f : Nat) (st : AHeap → AVal → AVal → (AHeap → Prop) → Prop) (m : Int) (Q : AVal → AHeap → Prop) (Y1 : List AVal → AHeap → Prop) (v2 v3 : AVal) (h : AHeap) : Prop :=
  B.pv (V.lenSl v2) fun v11 =>
    B.pv (V.bin .lss v3 v11) fun v12 =>
    B.cond v12
    (B.call C f [(.int .i64 m), v3] h fun v18 h =>
    B.pv (V.idxS es v2 v3) fun v19 =>
    st h v19 v18 fun h =>
    B.pv (V.bin .add v3 (.int .i64 1)) fun v14 =>
    Y1 [v14] h)
    (Q (.tup []) h)
@[simp] def overG.l3 (C : CSem) (es f : Nat) (st : AHeap → AVal → AVal → (AHeap → Prop) → Prop) (m : Int) (Q : AVal → AHeap → Prop) (v2 : AVal) : List AVal → AHeap → (List AVal → AHeap → Prop) → Prop
  | [v3], h, Y1 => overG.k1 C es f st m Q Y1 v2 v3 h
  | _, _, _ => False
def overG (C : CSem) (es f : Nat) (st : AHeap → AVal → AVal → (AHeap → Prop) → Prop) (m : Int) (v0 : AVal) (h : AHeap) (Q : AVal → AHeap → Prop) : Prop :=
  B.pv (V.lenSl v0) fun v6 =>
    B.pv (V.bin .add v6 (.int .i64 12)) fun v7 =>
    B.pv (V.cutSl es v0 none (some v7)) fun v8 =>
    LoopR (overG.l3 C es f st m Q v8) [(.int .i64 0)] h
theorem overG_spec {es f : Nat} {st : AHeap → AVal → AVal → (AHeap → Prop) → Prop} {m : Int} (hes : 0 < es) {v : Int → AVal} (s1 : ∀ (i : Int) (h : AHeap) (Q : AVal → AHeap → Prop), Q (v i) h → C f [.int .i64 m, .int .i64 i] h Q)
    (s2 : ∀ {h0 h : AHeap} {x : AVal} {L R : List (List AVal)} {i : Nat} {k : Int} {K : AHeap → Prop}, Owns h0 h [.sl es x L R] → i < L.length → (∀ h' L', L'.length = L.length → Owns h0 h' [.sl es x L' R] → K h') → st h (elp es x i 0) (v k) K)
    {h0 h : AHeap} {x : AVal} {L R : List (List AVal)} {Q : AVal → AHeap → Prop} (ho : Owns h0 h [.sl es x L R]) (hR : R.length = 12) (hlen : L.length ≤ 100000000) (hq : ∀ h', h0.le h' → Q (.tup []) h') : overG C es f st m x h Q := by
  have hx := ho.slAt 0 rfl
  have hlx := hx.lenSl
  have e1 : IntKind.i64.wrap ((L.length : Int) + 12) = ((L.length + 12 : Nat) : Int) := by rw [wrap_i64 (by omega) (by omega)]; omega
  obtain ⟨z, e2, e3, e4⟩ := hx.slice hes (lo := 0) (hi := L.length + 12) (a := none) (b := some (.int .i64 ((L.length + 12 : Nat) : Int))) (.inl ⟨rfl, rfl⟩) (.inr ⟨_, rfl⟩) (by omega) (by omega)
  have h1 : ((L ++ R).take (L.length + 12)).drop 0 = L ++ R := by rw [List.drop_zero, List.take_of_length_le]; simp; omega
  rw [h1] at e3
  simp only [overG, hlx, V.bin_add, e1, e2, B.pv_some]
  have hoz : Owns h0 h [.sl es z (L ++ R) ((L ++ R).drop (L.length + 12))] := ho.turn 0 rfl (o' := .sl es z (L ++ R) ((L ++ R).drop (L.length + 12))) e3 (fun id b hf hb => ho.ownAt 0 rfl id b (by show foot x = some id; rw [← e4]; exact hf) hb) (fun j b hb _ => hb) (.inl e4)
  refine LoopR.intro (fun n vs hh => ∃ (k : Nat) (L' : List (List AVal)), k + n = L.length + 12 ∧ vs = [.int .i64 k] ∧ L'.length = L.length + 12 ∧ Owns h0 hh [.sl es z L' ((L ++ R).drop (L.length + 12))]) (L.length + 12) ?_ ⟨0, L ++ R, by simp, by simp, by simp [hR], hoz⟩
  rintro Y n vs hh ⟨k, L', hn, rfl, hl', ho'⟩ hY
  have hlz := (ho'.slAt 0 rfl).lenSl
  rw [hl'] at hlz
  simp -dsimp [hlz]
  refine B.cond_bool (fun hc => ?_) (fun hc => ?_) <;> simp -dsimp at hc ⊢
  · have hk : k < L'.length := by omega
    refine s1 _ _ _ ?_
    simp -dsimp only [(ho'.slAt 0 rfl).idxN hk, B.pv_some]
    refine s2 ho' hk fun h' L2 hl2 ho2 => ?_
    simp -dsimp [inc64 (n := k) (by omega)]
    exact hY (L.length + 12 - (k + 1)) _ _ (by omega) ⟨k + 1, L2, by omega, by simp, by omega, ho2⟩
  · exact hq _ ho'.le
theorem over_stN {es : Nat} {xs : List AVal} (hxs : xs.length = es) {h0 h : AHeap} {x : AVal} {L R : List (List AVal)} {i : Nat} {K : AHeap → Prop} (ho : Owns h0 h [.sl es x L R]) (hi : i < L.length) (hK : ∀ h' L', L'.length = L.length → Owns h0 h' [.sl es x L' R] → K h') : B.stn h (elp es x i 0) es (.agg xs) K := by
  refine ho.stElem 0 rfl (c := L[i]) (by simp [hi]) hxs fun h' ho' _ => hK h' _ (by simp) ho'
/-! What one owns, parted: some of it as what was there at first. -/
def AHeap.without (h : AHeap) (l : List Ob) : AHeap := ⟨fun i => bif l.any (fun o => o.foot == some i) then none else h i, by
  obtain ⟨n, k⟩ := h.2
  refine ⟨n, fun i hi => ?_⟩
  show (bif l.any (fun o => o.foot == some i) then none else h i) = none
  cases l.any (fun o => o.foot == some i)
  · exact k i hi
  · rfl⟩
theorem without_in {h : AHeap} {l : List Ob} {i : Nat} {o : Ob} (hm : o ∈ l) (hf : o.foot = some i) : h.without l i = none := by
  have : (l.any fun o => o.foot == some i) = true := List.any_eq_true.2 ⟨o, hm, by simp [hf]⟩
  show (bif l.any (fun o => o.foot == some i) then none else h i) = none
  rw [this]; rfl
theorem without_out {h : AHeap} {l : List Ob} {i : Nat} (hm : ∀ o ∈ l, o.foot ≠ some i) : h.without l i = h i := by
  have : (l.any fun o => o.foot == some i) = false := by
    rw [← Bool.not_eq_true, List.any_eq_true]
    rintro ⟨o, h1, h2⟩
    exact hm o h1 (by simpa using h2)
  show (bif l.any (fun o => o.foot == some i) then none else h i) = _
  rw [this]; rfl
theorem without_le (h : AHeap) (l : List Ob) : (h.without l).le h := fun i b e => by
  by_cases hm : ∃ o ∈ l, o.foot = some i
  · obtain ⟨o, h1, h2⟩ := hm
    rw [without_in h1 h2] at e; cases e
  · rw [without_out fun o h1 h2 => hm ⟨o, h1, h2⟩] at e; exact e
theorem Owns.out {h0 h : AHeap} {l1 l2 : List Ob} (ho : Owns h0 h (l1 ++ l2)) : Owns h0 (h.without l2) l1 ∧ Owns (h.without l2) h l2 := by
  obtain ⟨a1, a2, a3⟩ := List.pairwise_append.1 ho.apart
  have h1 : h0.le (h.without l2) := fun i b e => by
    rw [without_out fun o hm hf => by rw [(ho.own o (List.mem_append_right _ hm) i hf).1] at e; cases e]
    exact ho.le i b e
  have keep : ∀ o ∈ l1, ∀ id, o.foot = some id → (h.without l2) id = h id := fun o hm id hf => without_out fun o2 hm2 hf2 => a3 o hm o2 hm2 id hf hf2
  refine ⟨⟨h1, fun o hm => (ho.is o (List.mem_append_left _ hm)).keep fun id b hf hb => by rw [keep o hm id hf]; exact hb, fun o hm id hf => ?_, a1⟩,
    ⟨without_le h l2, fun o hm => ho.is o (List.mem_append_right _ hm), fun o hm id hf => ⟨without_in hm hf, (ho.own o (List.mem_append_right _ hm) id hf).2⟩, a2⟩⟩
  obtain ⟨b1, b2⟩ := ho.own o (List.mem_append_left _ hm) id hf
  exact ⟨b1, fun b hb => b2 b (by rw [← keep o hm id hf]; exact hb)⟩
theorem Owns.perm {h0 h : AHeap} {l l' : List Ob} (ho : Owns h0 h l) (hp : l.Perm l') : Owns h0 h l' :=
  ⟨ho.le, fun o hm => ho.is o (hp.mem_iff.2 hm), fun o hm => ho.own o (hp.mem_iff.2 hm), (hp.pairwise_iff fun {a b} hab id hb ha => hab id ha hb).1 ho.apart⟩

/-! Kinds of elements. -/
theorem elF {T : Type} [DecidableEq T] (F : Flat T) {bytes f : Nat} {z : List AVal} {mk : Int → Int → T} (hz : z.length = F.es) (hb : bytes ≤ 1000) (s1 : ∀ (k i : Int) (h : AHeap) (Q : AVal → AHeap → Prop), Q (.agg (F.cs (mk k i))) h → C f [.int .i64 k, .int .i64 i] h Q) :
    ElSpec C (opsF F.es bytes z f F.sh) (fun k i => F.cs (mk k i)) (fun k i => .agg (F.cs (mk k i))) where
  pos := F.pos
  small := hb
  len _ _ := F.len _
  zlen := hz
  new k i := by
    have hrep : repL 1 z = z := by unfold repL; split <;> simp
    have h1 := F.len (mk k i)
    show fillL [(0, some F.es, AVal.agg (F.cs (mk k i)))] (repL 1 z) = _
    rw [hrep]
    simp [h1, hz]
  call := s1
  ld hs hc hk := by
    simp only [opsF, B.ldn_eq] at hs ⊢
    rw [hs.elem hc]; exact hk
  kpt hs hc := ⟨_, hs.elem hc⟩
  st {h x L R i c k j K} hs hown hc hk := by
    refine hs.stn hown hc (F.len _) (by simp [opsF]) ?_
    have hcl := hs.len c (List.mem_append_left _ (List.mem_of_getElem? hc))
    have e : c.take 0 ++ F.cs (mk k j) ++ c.drop (0 + F.es) = F.cs (mk k j) := by
      have : c.length = F.es := hcl
      simp [this]
    rw [e]; exact hk
  eq hk := by simp only [opsF, F.eql, B.pv_some, decide_true]; exact hk
theorem elS {bytes f : Nat} {z : AVal} {mv : Int → Int → AVal} (hc : ∀ k i, (mv k i).isCell = true) (he : ∀ k i, V.bin .eql (mv k i) (mv k i) = some (.bool true)) (hb : bytes ≤ 1000) (s1 : ∀ (k i : Int) (h : AHeap) (Q : AVal → AHeap → Prop), Q (mv k i) h → C f [.int .i64 k, .int .i64 i] h Q) :
    ElSpec C (opsS bytes z f) (fun k i => [mv k i]) mv where
  pos := Nat.one_pos
  small := hb
  len _ _ := rfl
  zlen := rfl
  new k i := by simp [opsS, hc, repL]
  call := s1
  ld hs hc hk := by
    simp only [opsS, B.ld_eq] at hs ⊢
    rw [hs.cell hc]; exact hk
  kpt hs hc := ⟨_, hs.cell hc⟩
  st {h x L R i c k j K} hs hown hcc hk := by
    have hs' : SlX h 1 x L R := hs
    have hcl : c.length = 1 := hs'.len c (List.mem_append_left _ (List.mem_of_getElem? hcc))
    obtain ⟨u, rfl⟩ := List.length_eq_one_iff.1 hcl
    exact hs'.st hown hcc (by omega) (hc _ _) hk
  eq hk := by simp only [opsS, he, B.pv_some]; exact hk
end Go.Ab

/- What is told: the types that the program's packages share, as cells. No conditions. -/
set_option linter.unusedVariables false
namespace Go.Ab
structure Window where
  From : Int
  Until : Int
  deriving DecidableEq
@[simp] def Window.cs (w : Window) : List AVal := [.int .i64 w.From, .int .i64 w.Until]
@[simp] theorem Window.eta (w : Window) : Window.mk w.From w.Until = w := rfl
def wF : Flat Window where
  cs := Window.cs
  es := 2
  sh := [.i .i64, .i .i64]
  len _ := rfl
  pos := by omega
  eq a b := by
    cases a; cases b
    simp

structure Lot where
  Id : Int
  Item : List UInt8
  From : Int
  Until : Int
  Qty : Int
  Arrived : Bool
  deriving DecidableEq
@[simp] def Lot.cs (l : Lot) : List AVal := [.int .i64 l.Id, .str l.Item, .int .i64 l.From, .int .i64 l.Until, .int .i64 l.Qty, .bool l.Arrived]
def lotF : Flat Lot where
  cs := Lot.cs
  es := 6
  sh := [.i .i64, .s, .i .i64, .i .i64, .i .i64, .b]
  len _ := rfl
  pos := by omega
  eq a b := by
    cases a; cases b
    simp
structure Use where
  Want : Int
  Lot : Int
  Qty : Int
  deriving DecidableEq
@[simp] def Use.cs (u : Use) : List AVal := [.int .i64 u.Want, .int .i64 u.Lot, .int .i64 u.Qty]
def useF : Flat Use where
  cs := Use.cs
  es := 3
  sh := [.i .i64, .i .i64, .i .i64]
  len _ := rfl
  pos := by omega
  eq a b := by
    cases a; cases b
    simp

structure Want where
  Item : List UInt8
  Day : Int
  Qty : Int
  deriving DecidableEq
@[simp] def Want.cs (u : Want) : List AVal := [.str u.Item, .int .i64 u.Day, .int .i64 u.Qty]
def wantF : Flat Want where
  cs := Want.cs
  es := 3
  sh := [.s, .i .i64, .i .i64]
  len _ := rfl
  pos := by omega
  eq a b := by
    cases a; cases b
    simp
structure Part where
  Item : List UInt8
  Qty : Int
  deriving DecidableEq
@[simp] def Part.cs (u : Part) : List AVal := [.str u.Item, .int .i64 u.Qty]
def partF : Flat Part where
  cs := Part.cs
  es := 2
  sh := [.s, .i .i64]
  len _ := rfl
  pos := by omega
  eq a b := by
    cases a; cases b
    simp
theorem u8_eq (a b : UInt8) : decide ((a.toNat : Int) = b.toNat) = decide (a = b) := by
  rw [decide_eq_decide]
  constructor
  · intro h; exact UInt8.toNat_inj.1 (by omega)
  · intro h; rw [h]
structure Line where
  Id : Int
  Item : List UInt8
  Qty : Int
  Asked : Int
  Rank : Int
  State : UInt8
  Day : Int
  Code : List UInt8
  deriving DecidableEq
@[simp] def Line.cs (u : Line) : List AVal := [.int .i64 u.Id, .str u.Item, .int .i64 u.Qty, .int .i64 u.Asked, .int .i64 u.Rank, .int .u8 (u.State.toNat : Int), .int .i64 u.Day, .str u.Code]
def lineF : Flat Line where
  cs := Line.cs
  es := 8
  sh := [.i .i64, .s, .i .i64, .i .i64, .i .i64, .i .u8, .i .i64, .s]
  len _ := rfl
  pos := by omega
  eq a b := by
    cases a; cases b
    simp [u8_eq]
def bS : Scal UInt8 where
  c b := .int .u8 b.toNat
  cell _ := rfl
  eql a b := by rw [V.bin_eql, u8_eq]
  neq a b := by rw [V.bin_neq, u8_eq]
abbrev bc : UInt8 → List AVal := bS.cs
def tS : Scal (List UInt8) where
  c b := .str b
  cell _ := rfl
  eql a b := by rw [V.bin_seql]
  neq a b := by rw [V.bin_sneq]
abbrev tc : List UInt8 → List AVal := tS.cs
def iS : Scal Int where
  c b := .int .i64 b
  cell _ := rfl
  eql a b := by rw [V.bin_eql]
  neq a b := by rw [V.bin_neq]
abbrev ic : Int → List AVal := iS.cs
theorem wrap_u8 (n : Int) : IntKind.u8.wrap n = n % 256 := by
  simp [IntKind.wrap, IntKind.bits, IntKind.signed]
theorem u8_wrapN (n : Nat) : IntKind.u8.wrap (n : Int) = ((UInt8.ofNat n).toNat : Int) := by
  rw [wrap_u8]; simp
def byt (m : Int) : UInt8 := UInt8.ofNat (m % 256).toNat
theorem byt_nat (m : Int) : ((byt m).toNat : Int) = m % 256 := by
  have h1 := Int.emod_nonneg m (show (256 : Int) ≠ 0 by omega)
  have h2 := Int.emod_lt_of_pos m (show (0 : Int) < 256 by omega)
  simp [byt]
  omega
theorem u8_byt (m : Int) : IntKind.u8.wrap m = ((byt m).toNat : Int) := by rw [wrap_u8, byt_nat]
theorem bin_shr {k j : IntKind} {a b : Int} (h0 : 0 ≤ b) (h1 : b < k.bits) : V.bin .shr (.int k a) (.int j b) = some (.int k (a.fdiv (2 ^ b.toNat))) := by
  simp only [V.bin, V.shift]
  rw [if_neg (by omega), Nat.min_eq_left (by omega)]

theorem bytesOf_bc : ∀ s : List UInt8, V.bytesOf? (s.map bc).flatten = some s
  | [] => rfl
  | a :: r => by
    have := bytesOf_bc r
    simp only [List.map_cons, List.flatten_cons, List.cons_append, List.nil_append] at this ⊢
    simp only [V.bytesOf?, this]
    simp [V.byteOf?, bS]
theorem bytesStr_bc {h : AHeap} {x : AVal} {s : List UInt8} {R : List (List AVal)} (hx : SlX h 1 x (s.map bc) R) (K : AVal → Prop) : (B.bytesStr h x K : Prop) = K (.str s) := by
  have h1 := hx.srcLen
  have h2 := hx.rdv
  rw [List.length_map] at h1 h2
  simp only [B.bytesStr, A.bytesStr, h1, h2, bytesOf_bc]
structure TellP where
  Err : Int
  Id : Int
  Day : Int
  Code : List UInt8
  State : UInt8
  Lots : List Lot
  Uses : List Use
  deriving DecidableEq
/-- An answer's value: its lists are x and y. -/
@[simp] def TellP.cs (t : TellP) (x y : AVal) : List AVal := [.int .i64 t.Err, .int .i64 t.Id, .int .i64 t.Day, .str t.Code, .int .u8 (t.State.toNat : Int), x, y]
structure TellAt (h : AHeap) (t : TellP) (x y : AVal) : Prop where
  lots : ∃ R, SlX h 6 x (t.Lots.map Lot.cs) R
  uses : ∃ R, SlX h 3 y (t.Uses.map Use.cs) R
theorem TellAt.mono {h H : AHeap} {t : TellP} {x y : AVal} (ht : TellAt h t x y) (hle : h.le H) : TellAt H t x y := by
  obtain ⟨⟨R, a⟩, ⟨S, b⟩⟩ := ht
  exact ⟨⟨R, a.mono hle⟩, ⟨S, b.mono hle⟩⟩
def inI64 (n : Int) : Prop := -9223372036854775808 ≤ n ∧ n ≤ 9223372036854775807
def Lot.ok (l : Lot) : Prop := inI64 l.Id ∧ inI64 l.Qty
def Use.ok (u : Use) : Prop := inI64 u.Want ∧ inI64 u.Lot ∧ inI64 u.Qty
def TellP.ok (t : TellP) : Prop := inI64 t.Id ∧ (∀ l ∈ t.Lots, l.ok) ∧ ∀ u ∈ t.Uses, u.ok

end Go.Ab

/- What is proved: arguments of the types that the packages share, read in the abstract memory. No conditions. -/
set_option linter.unusedVariables false
namespace Go.Ab
theorem u8_of {n : Int} (h1 : IntKind.u8.min ≤ n) (h2 : n ≤ IntKind.u8.max) : ((UInt8.ofNat n.toNat).toNat : Int) = n := by
  simp [IntKind.min, IntKind.max, IntKind.bits, IntKind.signed] at h1 h2
  simp
  omega
abbrev tyLine : Ty := .st [.i .i64, .s, .i .i64, .i .i64, .i .i64, .i .u8, .i .i64, .s]
theorem arg_sliceP {T : Type} {H : AHeap} {bytes es : Nat} {e : Ty} {v : AVal} (cs : T → List AVal) (P : T → Prop) (hd : ∀ p, AbsOk H e p → ∃ t, p = cs t ∧ P t) (h : AbsOk H (.sl bytes es e) [v]) :
    ∃ L : List T, SlIs H es v (L.map cs) ∧ L.length * bytes ≤ reach ∧ ∀ t ∈ L, P t := by
  obtain ⟨L, h1, h2⟩ := arg_slice (T := { t : T // P t }) (fun t => cs t.1) (fun p hp => by obtain ⟨t, e, k⟩ := hd p hp; exact ⟨⟨t, k⟩, e⟩) h
  refine ⟨L.map (·.1), ?_, by simpa using h2, fun t ht => ?_⟩
  · rw [List.map_map]; exact h1
  · obtain ⟨u, _, rfl⟩ := List.mem_map.1 ht; exact u.2
theorem dLine {H : AHeap} {p : List AVal} (h : AbsOk H tyLine p) : ∃ w : Line, p = w.cs := by
  obtain ⟨a, r, rfl, ⟨n1, rfl, _⟩, ⟨b, r2, rfl, ⟨n2, rfl, _⟩, ⟨c, r3, rfl, ⟨n3, rfl, _⟩, ⟨d, r4, rfl, ⟨n4, rfl, _⟩, ⟨e, r5, rfl, ⟨n5, rfl, _⟩, ⟨f, r6, rfl, ⟨n6, rfl, k1, k2⟩, ⟨g, r7, rfl, ⟨n7, rfl, _⟩, ⟨i, r8, rfl, ⟨n8, rfl, _⟩, hr⟩⟩⟩⟩⟩⟩⟩⟩ := h
  cases hr
  refine ⟨⟨n1, n2, n3, n4, n5, UInt8.ofNat n6.toNat, n7, n8⟩, ?_⟩
  rw [Line.cs, u8_of k1 k2]; rfl
end Go.Ab

/- What is proved: rules by which a function's reading is tied to a printed residual, piece within piece. No conditions. -/
set_option linter.unusedVariables false
namespace Go.Ab
/-! A code's parts. -/
def cA : Code → Code
  | .seq a _ => a
  | .cond _ a _ => a
  | .block _ b => b
  | .loop b => b
  | _ => .skip
def cB : Code → Code
  | .seq _ b => b
  | .cond _ _ b => b
  | _ => .skip
def cI : Code → Nat
  | .block i _ => i
  | _ => 0
def isS : Code → Bool
  | .seq _ _ => true
  | _ => false
def isC (t : Nat) : Code → Bool
  | .cond (.tmp k) _ _ => Nat.beq k t
  | _ => false
def isK : Code → Bool
  | .block _ _ => true
  | _ => false
def isL : Code → Bool
  | .loop _ => true
  | _ => false
section
variable {P : Program} {C : CSem} {I : Bx}
theorem eS (hC : CMono C) {c : Code} {Q : Ex → Slots → AHeap → Prop} {s : Slots} {h : AHeap} (X : Slots → AHeap → Prop) (ha : bwp P C I (cA c) (Ex.then X Q) s h) (hb : ∀ s h, X s h → bwp P C I (cB c) Q s h) (hk : isS c = true := by kernel_rfl) : bwp P C I c Q s h := by
  cases c <;> first | exact seqB hC rfl hb ha | cases hk
theorem eC {c : Code} {Q : Ex → Slots → AHeap → Prop} {p q : Prop} {s : Slots} {h : AHeap} (t : Nat) (hr : A.cond (s t) p q) (hx : p → bwp P C I (cA c) Q s h) (hy : q → bwp P C I (cB c) Q s h) (hk : isC t c = true := by kernel_rfl) : bwp P C I c Q s h := by
  cases c with
  | cond o x y =>
    cases o with
    | tmp k =>
      have e : k = t := Nat.eq_of_beq_eq_true hk
      subst e
      exact condB rfl hx hy hr
    | _ => cases hk
  | _ => cases hk
theorem eK {c : Code} {Q : Ex → Slots → AHeap → Prop} {s : Slots} {h : AHeap} (hb : bwp P C I (cA c) (Ex.inBlock (cI c) Q) s h) (hk : isK c = true := by kernel_rfl) : bwp P C I c Q s h := by
  cases c <;> first | exact hb | cases hk
theorem eL (hC : CMono C) {c : Code} {Q : Ex → Slots → AHeap → Prop} {s : Slots} {h : AHeap} (keep live : List Nat) (G : List AVal → List AVal → AHeap → (List AVal → AHeap → Prop) → Prop)
    (hr : LoopR (G (keep.map s)) (live.map s) h)
    (hG : ∀ (Y : List AVal → AHeap → Prop) (s : Slots) (h : AHeap), G (keep.map s) (live.map s) h Y → bwp P C I (cA c) (Ex.then (fun s h => Y (live.map s) h) Q) s h)
    (hk : isL c = true := by kernel_rfl) (hw : (keep.all fun k => !memB (writesB P I (cA c)) k) = true := by kernel_rfl) : bwp P C I c Q s h := by
  cases c <;> first | exact loopB hC keep live rfl hw hG hr | cases hk
/-- A piece that is read at once. -/
theorem e1 {c : Code} {Q : Ex → Slots → AHeap → Prop} {s : Slots} {h : AHeap} {p : Prop} (hR : p) (e : bwp P C I c Q s h = p := by kernel_rfl) : bwp P C I c Q s h := e.mpr hR

/-- A whole function. -/
theorem eF (hm : P.follows .mixedOrders = true) {f : FuncId} {fn : Func} {c : Code} {I : Bx} {args : List AVal} {h : AHeap} {Q : AVal → AHeap → Prop}
    (hx : CMono (AC P) → bwp P (AC P) I c (retB P I fn.results.toList (dn Q)) (startS args) h) (hf : P.funcs[f]? = some fn := by kernel_rfl) (hb : fn.body = some c := by kernel_rfl) (h1 : (fn.name == "runtime.NumGoroutine") = false := by kernel_rfl)
    (hc : codeIn fn.ntmps c = true := by kernel_rfl) (hl : Nat.ble args.length fn.ntmps = true := by kernel_rfl) (hB : Nat.ble args.length I.B = true := by kernel_rfl) (hk : chkC P I c = true := by kernel_rfl) : AC P f args h Q :=
  AC_drop (AC_introB hm hf hb (callFunc_enter hf (by rw [hb]; rfl) h1) hc (Nat.le_of_ble_eq_true hl) (Nat.le_of_ble_eq_true hB) hk (hx (AC_cmono P)))
end
end Go.Ab

/- What is told: residuals: what each function does in the abstract memory, printed by a program of mine. Definitions alone. -/
set_option linter.unusedVariables false
namespace Go.Ab
@[simp] def cmp_Compare_int.k1 (C : CSem) (N : Nat → Nat) (Q : AVal → AHeap → Prop) (v0 v1 : AVal) (h : AHeap) : Prop :=
  B.call C (N 171) [v0] h fun v8 h =>
    B.call C (N 171) [v1] h fun v10 h =>
    B.cond v8
    (B.cond v10
    (Q (.int .i64 0) h)
    (Q (.int .i64 (-1)) h))
    (B.cond v10
    (Q (.int .i64 1) h)
    (B.pv (V.bin .lss v0 v1) fun v16 =>
    B.cond v16
    (Q (.int .i64 (-1)) h)
    (B.pv (V.bin .gtr v0 v1) fun v19 =>
    B.cond v19
    (Q (.int .i64 1) h)
    (Q (.int .i64 0) h))))
/-- cmp.Compare[int] -/
@[simp] def cmp_Compare_int.cps (C : CSem) (N : Nat → Nat) (v0 v1 : AVal) (h : AHeap) (Q : AVal → AHeap → Prop) : Prop :=
  cmp_Compare_int.k1 C N Q v0 v1 h
def cmp_Compare_int.Imp (C : CSem) (N : Nat → Nat) : Prop := ∀ (v0 v1 : AVal) (h : AHeap) (Q : AVal → AHeap → Prop), cmp_Compare_int.cps C N v0 v1 h (dn Q) → C (N 157) [v0, v1] h Q
@[simp] def cmp_Or_int.k1 (C : CSem) (N : Nat → Nat) (Q : AVal → AHeap → Prop) (Y1 : List AVal → AHeap → Prop) (v3 v6 v7 v8 : AVal) (h : AHeap) : Prop :=
  B.pv (V.bin .lss v8 v7) fun v9 =>
    B.cond v9
    (B.pv (V.idxS 1 v6 v8) fun v10 =>
    B.ld h v10 fun v11 =>
    B.pv (V.bin .neq v11 v3) fun v14 =>
    B.cond v14
    (Q v11 h)
    (B.pv (V.bin .add v8 (.int .i64 1)) fun v16 =>
    Y1 [v16] h))
    (Q v3 h)
@[simp] def cmp_Or_int.l2 (C : CSem) (N : Nat → Nat) (Q : AVal → AHeap → Prop) (v3 v6 v7 : AVal) : List AVal → AHeap → (List AVal → AHeap → Prop) → Prop
  | [v8], h, Y1 => cmp_Or_int.k1 C N Q Y1 v3 v6 v7 v8 h
  | _, _, _ => False
/-- cmp.Or[int] -/
@[simp] def cmp_Or_int.cps (C : CSem) (N : Nat → Nat) (v0 : AVal) (h : AHeap) (Q : AVal → AHeap → Prop) : Prop :=
  B.pv (V.lenSl v0) fun v7 =>
    LoopR (cmp_Or_int.l2 C N Q (.int .i64 0) v0 v7) [(.int .i64 0)] h
def cmp_Or_int.Imp (C : CSem) (N : Nat → Nat) : Prop := ∀ (v0 : AVal) (h : AHeap) (Q : AVal → AHeap → Prop), cmp_Or_int.cps C N v0 h (dn Q) → C (N 158) [v0] h Q
/-- cmp.isNaN[int] -/
@[simp] def cmp_isNaN_int.cps (C : CSem) (N : Nat → Nat) (v0 : AVal) (h : AHeap) (Q : AVal → AHeap → Prop) : Prop :=
  B.pv (V.bin .neq v0 v0) fun v5 =>
    Q v5 h
def cmp_isNaN_int.Imp (C : CSem) (N : Nat → Nat) : Prop := ∀ (v0 : AVal) (h : AHeap) (Q : AVal → AHeap → Prop), cmp_isNaN_int.cps C N v0 h (dn Q) → C (N 171) [v0] h Q
end Go.Ab

/- What is told: residuals: what each function does in the abstract memory, printed by a program of mine. Definitions alone. -/
set_option linter.unusedVariables false
namespace Go.Ab
@[simp] def code_Right.k1 (C : CSem) (N : Nat → Nat) (Q : AVal → AHeap → Prop) (v0 : AVal) (h : AHeap) : Prop :=
  B.pv (V.bin .neq v0 (.str [])) fun v34 =>
    B.gd h v34 true (fun K => K v0 h) fun v36 h =>
    B.gd h v34 true (fun K => B.pv (V.lenStr v36) fun v => K v h) fun v37 h =>
    B.gd h v34 true (fun K => B.pv (V.bin .leq v37 (.int .i64 12)) fun v => K v h) fun v38 h =>
    B.pick v34 v38 (.bool false) fun v39 =>
    Q v39 h
@[simp] def code_Right.k2 (C : CSem) (N : Nat → Nat) (Q : AVal → AHeap → Prop) (Y1 : List AVal → AHeap → Prop) (v0 v6 : AVal) (h : AHeap) : Prop :=
  B.nextStr h v6 fun v7 h =>
    B.pv (V.ext 0 v7) fun v8 =>
    B.cond v8
    (B.pv (V.ext 1 v7) fun v9 =>
    B.pv (V.ext 2 v7) fun v10 =>
    B.pv (V.bin .geq v10 (.int .i32 65)) fun v13 =>
    B.gd h v13 true (fun K => K v10 h) fun v15 h =>
    B.gd h v13 true (fun K => B.pv (V.bin .leq v15 (.int .i32 90)) fun v => K v h) fun v16 h =>
    B.pick v13 v16 (.bool false) fun v17 =>
    B.cond v17
    (Y1 [] h)
    (B.pv (V.bin .gtr v9 (.int .i64 0)) fun v20 =>
    B.gd h v20 true (fun K => K v10 h) fun v22 h =>
    B.gd h v20 true (fun K => B.pv (V.bin .geq v22 (.int .i32 48)) fun v => K v h) fun v23 h =>
    B.gd h v20 true (fun K => K v23 h) fun v24 h =>
    B.gd h v24 true (fun K => K v10 h) fun v25 h =>
    B.gd h v24 true (fun K => B.pv (V.bin .leq v25 (.int .i32 57)) fun v => K v h) fun v26 h =>
    B.gd h v20 true (fun K => B.pick v24 v26 (.bool false) fun v => K v h) fun v27 h =>
    B.gd h v20 true (fun K => K v27 h) fun v28 h =>
    B.gd h v28 false (fun K => K v10 h) fun v29 h =>
    B.gd h v28 false (fun K => B.pv (V.bin .eql v29 (.int .i32 45)) fun v => K v h) fun v30 h =>
    B.gd h v20 true (fun K => B.pick v28 (.bool true) v30 fun v => K v h) fun v31 h =>
    B.pick v20 v31 (.bool false) fun v32 =>
    B.cond v32
    (Y1 [] h)
    (Q (.bool false) h)))
    (code_Right.k1 C N Q v0 h)
@[simp] def code_Right.l3 (C : CSem) (N : Nat → Nat) (Q : AVal → AHeap → Prop) (v0 v6 : AVal) : List AVal → AHeap → (List AVal → AHeap → Prop) → Prop
  | [], h, Y1 => code_Right.k2 C N Q Y1 v0 v6 h
  | _, _, _ => False
/-- storeman/code.Right -/
@[simp] def code_Right.cps (C : CSem) (N : Nat → Nat) (v0 : AVal) (h : AHeap) (Q : AVal → AHeap → Prop) : Prop :=
  B.rangeStr h v0 fun v6 h =>
    LoopR (code_Right.l3 C N Q v0 v6) [] h
def code_Right.Imp (C : CSem) (N : Nat → Nat) : Prop := ∀ (v0 : AVal) (h : AHeap) (Q : AVal → AHeap → Prop), code_Right.cps C N v0 h (dn Q) → C (N 53) [v0] h Q
end Go.Ab

/- What is told: residuals: what each function does in the abstract memory, printed by a program of mine. Definitions alone. -/
set_option linter.unusedVariables false
namespace Go.Ab
@[simp] def kit_markWindow.k1 (C : CSem) (N : Nat → Nat) (Q : AVal → AHeap → Prop) (v0 v1 : AVal) (h : AHeap) : Prop :=
  B.call C (N 20) [v0, v1] h fun v7 h =>
    B.pv (A.bld [(0, none, v7)] [.int .i64 0, .int .i64 0]) fun v8 =>
    B.pv (V.setN 0 2 v8 (.agg [.int .i64 0, .int .i64 0])) fun c4 =>
    B.pv (oneOf (joinV (V.fieldN 0 2 c4) (some []))) fun v => Q v h
/-- storeman/storemankit.markWindow -/
@[simp] def kit_markWindow.cps (C : CSem) (N : Nat → Nat) (v0 v1 : AVal) (h : AHeap) (Q : AVal → AHeap → Prop) : Prop :=
  kit_markWindow.k1 C N Q v0 v1 h
def kit_markWindow.Imp (C : CSem) (N : Nat → Nat) : Prop := ∀ (v0 v1 : AVal) (h : AHeap) (Q : AVal → AHeap → Prop), kit_markWindow.cps C N v0 v1 h (dn Q) → C (N 18) [v0, v1] h Q
/-- storeman/storemankit.mark -/
@[simp] def kit_mark.cps (C : CSem) (N : Nat → Nat) (v0 v1 : AVal) (h : AHeap) (Q : AVal → AHeap → Prop) : Prop :=
  B.pv (V.bin .add v0 (.int .i64 7)) fun v6 =>
    B.pv (V.bin .mul (.int .i64 1000003) v6) fun v7 =>
    B.pv (V.bin .add v7 v1) fun v9 =>
    Q v9 h
def kit_mark.Imp (C : CSem) (N : Nat → Nat) : Prop := ∀ (v0 v1 : AVal) (h : AHeap) (Q : AVal → AHeap → Prop), kit_mark.cps C N v0 v1 h (dn Q) → C (N 20) [v0, v1] h Q
@[simp] def kit_SameTell.k1 (C : CSem) (N : Nat → Nat) (Q : AVal → AHeap → Prop) (v0 v1 : AVal) (h : AHeap) : Prop :=
  B.pv (A.boxN 7 v0) fun c2 =>
    B.pv (A.boxN 7 v1) fun c3 =>
    B.al c2 (B.pv (V.field1 0 c2) fun v6 =>
    B.al c3 (B.pv (V.field1 0 c3) fun v8 =>
    B.pv (V.bin .eql v6 v8) fun v9 =>
    B.al c2 (B.gd h v9 true (fun K => K .undef h) fun _ h =>
    B.gd h v9 true (fun K => B.pv (V.field1 1 c2) fun v => K v h) fun v12 h =>
    B.al c3 (B.gd h v9 true (fun K => K .undef h) fun _ h =>
    B.gd h v9 true (fun K => B.pv (V.field1 1 c3) fun v => K v h) fun v14 h =>
    B.gd h v9 true (fun K => B.pv (V.bin .eql v12 v14) fun v => K v h) fun v15 h =>
    B.pick v9 v15 (.bool false) fun v16 =>
    B.al c2 (B.gd h v16 true (fun K => K .undef h) fun _ h =>
    B.gd h v16 true (fun K => B.pv (V.field1 2 c2) fun v => K v h) fun v19 h =>
    B.al c3 (B.gd h v16 true (fun K => K .undef h) fun _ h =>
    B.gd h v16 true (fun K => B.pv (V.field1 2 c3) fun v => K v h) fun v21 h =>
    B.gd h v16 true (fun K => B.pv (V.bin .eql v19 v21) fun v => K v h) fun v22 h =>
    B.pick v16 v22 (.bool false) fun v23 =>
    B.al c2 (B.gd h v23 true (fun K => K .undef h) fun _ h =>
    B.gd h v23 true (fun K => B.pv (V.field1 3 c2) fun v => K v h) fun v26 h =>
    B.al c3 (B.gd h v23 true (fun K => K .undef h) fun _ h =>
    B.gd h v23 true (fun K => B.pv (V.field1 3 c3) fun v => K v h) fun v28 h =>
    B.gd h v23 true (fun K => B.pv (V.bin .eql v26 v28) fun v => K v h) fun v29 h =>
    B.pick v23 v29 (.bool false) fun v30 =>
    B.al c2 (B.gd h v30 true (fun K => K .undef h) fun _ h =>
    B.gd h v30 true (fun K => B.pv (V.field1 4 c2) fun v => K v h) fun v33 h =>
    B.al c3 (B.gd h v30 true (fun K => K .undef h) fun _ h =>
    B.gd h v30 true (fun K => B.pv (V.field1 4 c3) fun v => K v h) fun v35 h =>
    B.gd h v30 true (fun K => B.pv (V.bin .eql v33 v35) fun v => K v h) fun v36 h =>
    B.pick v30 v36 (.bool false) fun v37 =>
    B.al c2 (B.gd h v37 true (fun K => K .undef h) fun _ h =>
    B.gd h v37 true (fun K => B.pv (V.field1 5 c2) fun v => K v h) fun v40 h =>
    B.al c3 (B.gd h v37 true (fun K => K .undef h) fun _ h =>
    B.gd h v37 true (fun K => B.pv (V.field1 5 c3) fun v => K v h) fun v42 h =>
    B.gd h v37 true (fun K => B.call C (N 74) [v40, v42] h K) fun v43 h =>
    B.pick v37 v43 (.bool false) fun v44 =>
    B.al c2 (B.gd h v44 true (fun K => K .undef h) fun _ h =>
    B.gd h v44 true (fun K => B.pv (V.field1 6 c2) fun v => K v h) fun v47 h =>
    B.al c3 (B.gd h v44 true (fun K => K .undef h) fun _ h =>
    B.gd h v44 true (fun K => B.pv (V.field1 6 c3) fun v => K v h) fun v49 h =>
    B.gd h v44 true (fun K => B.call C (N 75) [v47, v49] h K) fun v50 h =>
    B.pick v44 v50 (.bool false) fun v51 =>
    Q v51 h))))))))))))))
/-- storeman/storemankit.SameTell -/
@[simp] def kit_SameTell.cps (C : CSem) (N : Nat → Nat) (v0 v1 : AVal) (h : AHeap) (Q : AVal → AHeap → Prop) : Prop :=
  kit_SameTell.k1 C N Q v0 v1 h
def kit_SameTell.Imp (C : CSem) (N : Nat → Nat) : Prop := ∀ (v0 v1 : AVal) (h : AHeap) (Q : AVal → AHeap → Prop), kit_SameTell.cps C N v0 v1 h (dn Q) → C (N 42) [v0, v1] h Q
@[simp] def kit_bag_apart.k1 (C : CSem) (N : Nat → Nat) (Q : AVal → AHeap → Prop) (v0 : AVal) (h : AHeap) : Prop :=
  B.nilCheck v0 fun v4 =>
    B.pv (V.fieldAddr 0 v4) fun v5 =>
    B.ld h v5 fun v6 =>
    B.call C (N 80) [v6] h fun v7 h =>
    B.gd h v7 true (fun K => K v0 h) fun v9 h =>
    B.gd h v7 true (fun K => B.nilCheck v9 fun v => K v h) fun v10 h =>
    B.gd h v7 true (fun K => B.pv (V.fieldAddr 1 v10) fun v => K v h) fun v11 h =>
    B.gd h v7 true (fun K => B.ld h v11 fun v => K v h) fun v12 h =>
    B.gd h v7 true (fun K => B.call C (N 81) [v12] h K) fun v13 h =>
    B.pick v7 v13 (.bool false) fun v14 =>
    B.gd h v14 true (fun K => K v0 h) fun v16 h =>
    B.gd h v14 true (fun K => B.nilCheck v16 fun v => K v h) fun v17 h =>
    B.gd h v14 true (fun K => B.pv (V.fieldAddr 2 v17) fun v => K v h) fun v18 h =>
    B.gd h v14 true (fun K => B.ld h v18 fun v => K v h) fun v19 h =>
    B.gd h v14 true (fun K => B.call C (N 82) [v19] h K) fun v20 h =>
    B.pick v14 v20 (.bool false) fun v21 =>
    B.gd h v21 true (fun K => K v0 h) fun v23 h =>
    B.gd h v21 true (fun K => B.nilCheck v23 fun v => K v h) fun v24 h =>
    B.gd h v21 true (fun K => B.pv (V.fieldAddr 3 v24) fun v => K v h) fun v25 h =>
    B.gd h v21 true (fun K => B.ld h v25 fun v => K v h) fun v26 h =>
    B.gd h v21 true (fun K => B.call C (N 83) [v26] h K) fun v27 h =>
    B.pick v21 v27 (.bool false) fun v28 =>
    B.gd h v28 true (fun K => K v0 h) fun v30 h =>
    B.gd h v28 true (fun K => B.nilCheck v30 fun v => K v h) fun v31 h =>
    B.gd h v28 true (fun K => B.pv (V.fieldAddr 4 v31) fun v => K v h) fun v32 h =>
    B.gd h v28 true (fun K => B.ld h v32 fun v => K v h) fun v33 h =>
    B.gd h v28 true (fun K => B.call C (N 84) [v33] h K) fun v34 h =>
    B.pick v28 v34 (.bool false) fun v35 =>
    B.gd h v35 true (fun K => K v0 h) fun v37 h =>
    B.gd h v35 true (fun K => B.nilCheck v37 fun v => K v h) fun v38 h =>
    B.gd h v35 true (fun K => B.pv (V.fieldAddr 5 v38) fun v => K v h) fun v39 h =>
    B.gd h v35 true (fun K => B.ld h v39 fun v => K v h) fun v40 h =>
    B.gd h v35 true (fun K => B.call C (N 85) [v40] h K) fun v41 h =>
    B.pick v35 v41 (.bool false) fun v42 =>
    B.gd h v42 true (fun K => K v0 h) fun v44 h =>
    B.gd h v42 true (fun K => B.nilCheck v44 fun v => K v h) fun v45 h =>
    B.gd h v42 true (fun K => B.pv (V.fieldAddr 6 v45) fun v => K v h) fun v46 h =>
    B.gd h v42 true (fun K => B.ld h v46 fun v => K v h) fun v47 h =>
    B.gd h v42 true (fun K => B.call C (N 86) [v47] h K) fun v48 h =>
    B.pick v42 v48 (.bool false) fun v49 =>
    B.gd h v49 true (fun K => K v0 h) fun v51 h =>
    B.gd h v49 true (fun K => B.nilCheck v51 fun v => K v h) fun v52 h =>
    B.gd h v49 true (fun K => B.pv (V.fieldAddr 7 v52) fun v => K v h) fun v53 h =>
    B.gd h v49 true (fun K => B.ld h v53 fun v => K v h) fun v54 h =>
    B.gd h v49 true (fun K => B.call C (N 87) [v54] h K) fun v55 h =>
    B.pick v49 v55 (.bool false) fun v56 =>
    B.gd h v56 true (fun K => K v0 h) fun v58 h =>
    B.gd h v56 true (fun K => B.nilCheck v58 fun v => K v h) fun v59 h =>
    B.gd h v56 true (fun K => B.pv (V.fieldAddr 8 v59) fun v => K v h) fun v60 h =>
    B.gd h v56 true (fun K => B.ld h v60 fun v => K v h) fun v61 h =>
    B.gd h v56 true (fun K => B.call C (N 88) [v61] h K) fun v62 h =>
    B.pick v56 v62 (.bool false) fun v63 =>
    B.gd h v63 true (fun K => K v0 h) fun v65 h =>
    B.gd h v63 true (fun K => B.nilCheck v65 fun v => K v h) fun v66 h =>
    B.gd h v63 true (fun K => B.pv (V.fieldAddr 9 v66) fun v => K v h) fun v67 h =>
    B.gd h v63 true (fun K => B.ld h v67 fun v => K v h) fun v68 h =>
    B.gd h v63 true (fun K => B.call C (N 89) [v68] h K) fun v69 h =>
    B.pick v63 v69 (.bool false) fun v70 =>
    B.gd h v70 true (fun K => K v0 h) fun v72 h =>
    B.gd h v70 true (fun K => B.nilCheck v72 fun v => K v h) fun v73 h =>
    B.gd h v70 true (fun K => B.pv (V.fieldAddr 10 v73) fun v => K v h) fun v74 h =>
    B.gd h v70 true (fun K => B.ld h v74 fun v => K v h) fun v75 h =>
    B.gd h v70 true (fun K => B.call C (N 90) [v75] h K) fun v76 h =>
    B.pick v70 v76 (.bool false) fun v77 =>
    B.gd h v77 true (fun K => K v0 h) fun v79 h =>
    B.gd h v77 true (fun K => B.nilCheck v79 fun v => K v h) fun v80 h =>
    B.gd h v77 true (fun K => B.pv (V.fieldAddr 11 v80) fun v => K v h) fun v81 h =>
    B.gd h v77 true (fun K => B.ld h v81 fun v => K v h) fun v82 h =>
    B.gd h v77 true (fun K => B.call C (N 91) [v82] h K) fun v83 h =>
    B.pick v77 v83 (.bool false) fun v84 =>
    B.gd h v84 true (fun K => K v0 h) fun v86 h =>
    B.gd h v84 true (fun K => B.nilCheck v86 fun v => K v h) fun v87 h =>
    B.gd h v84 true (fun K => B.pv (V.fieldAddr 12 v87) fun v => K v h) fun v88 h =>
    B.gd h v84 true (fun K => B.ld h v88 fun v => K v h) fun v89 h =>
    B.gd h v84 true (fun K => B.call C (N 92) [v89] h K) fun v90 h =>
    B.pick v84 v90 (.bool false) fun v91 =>
    B.gd h v91 true (fun K => K v0 h) fun v93 h =>
    B.gd h v91 true (fun K => B.nilCheck v93 fun v => K v h) fun v94 h =>
    B.gd h v91 true (fun K => B.pv (V.fieldAddr 13 v94) fun v => K v h) fun v95 h =>
    B.gd h v91 true (fun K => B.ld h v95 fun v => K v h) fun v96 h =>
    B.gd h v91 true (fun K => B.call C (N 93) [v96] h K) fun v97 h =>
    B.pick v91 v97 (.bool false) fun v98 =>
    B.gd h v98 true (fun K => K v0 h) fun v100 h =>
    B.gd h v98 true (fun K => B.nilCheck v100 fun v => K v h) fun v101 h =>
    B.gd h v98 true (fun K => B.pv (V.fieldAddr 14 v101) fun v => K v h) fun v102 h =>
    B.gd h v98 true (fun K => B.ld h v102 fun v => K v h) fun v103 h =>
    B.gd h v98 true (fun K => B.call C (N 94) [v103] h K) fun v104 h =>
    B.pick v98 v104 (.bool false) fun v105 =>
    B.gd h v105 true (fun K => K v0 h) fun v107 h =>
    B.gd h v105 true (fun K => B.nilCheck v107 fun v => K v h) fun v108 h =>
    B.gd h v105 true (fun K => B.pv (V.fieldAddr 15 v108) fun v => K v h) fun v109 h =>
    B.gd h v105 true (fun K => B.ld h v109 fun v => K v h) fun v110 h =>
    B.gd h v105 true (fun K => B.call C (N 95) [v110] h K) fun v111 h =>
    B.pick v105 v111 (.bool false) fun v112 =>
    B.gd h v112 true (fun K => K v0 h) fun v114 h =>
    B.gd h v112 true (fun K => B.nilCheck v114 fun v => K v h) fun v115 h =>
    B.gd h v112 true (fun K => B.pv (V.fieldAddr 16 v115) fun v => K v h) fun v116 h =>
    B.gd h v112 true (fun K => B.ld h v116 fun v => K v h) fun v117 h =>
    B.gd h v112 true (fun K => B.call C (N 96) [v117] h K) fun v118 h =>
    B.pick v112 v118 (.bool false) fun v119 =>
    B.gd h v119 true (fun K => K v0 h) fun v121 h =>
    B.gd h v119 true (fun K => B.nilCheck v121 fun v => K v h) fun v122 h =>
    B.gd h v119 true (fun K => B.pv (V.fieldAddr 17 v122) fun v => K v h) fun v123 h =>
    B.gd h v119 true (fun K => B.ld h v123 fun v => K v h) fun v124 h =>
    B.gd h v119 true (fun K => B.call C (N 97) [v124] h K) fun v125 h =>
    B.pick v119 v125 (.bool false) fun v126 =>
    B.gd h v126 true (fun K => K v0 h) fun v128 h =>
    B.gd h v126 true (fun K => B.nilCheck v128 fun v => K v h) fun v129 h =>
    B.gd h v126 true (fun K => B.pv (V.fieldAddr 18 v129) fun v => K v h) fun v130 h =>
    B.gd h v126 true (fun K => B.ld h v130 fun v => K v h) fun v131 h =>
    B.gd h v126 true (fun K => B.call C (N 98) [v131] h K) fun v132 h =>
    B.pick v126 v132 (.bool false) fun v133 =>
    B.gd h v133 true (fun K => K v0 h) fun v135 h =>
    B.gd h v133 true (fun K => B.nilCheck v135 fun v => K v h) fun v136 h =>
    B.gd h v133 true (fun K => B.pv (V.fieldAddr 19 v136) fun v => K v h) fun v137 h =>
    B.gd h v133 true (fun K => B.ld h v137 fun v => K v h) fun v138 h =>
    B.gd h v133 true (fun K => B.call C (N 99) [v138] h K) fun v139 h =>
    B.pick v133 v139 (.bool false) fun v140 =>
    B.gd h v140 true (fun K => K v0 h) fun v142 h =>
    B.gd h v140 true (fun K => B.nilCheck v142 fun v => K v h) fun v143 h =>
    B.gd h v140 true (fun K => B.pv (V.fieldAddr 20 v143) fun v => K v h) fun v144 h =>
    B.gd h v140 true (fun K => B.ld h v144 fun v => K v h) fun v145 h =>
    B.gd h v140 true (fun K => B.call C (N 100) [v145] h K) fun v146 h =>
    B.pick v140 v146 (.bool false) fun v147 =>
    B.gd h v147 true (fun K => K v0 h) fun v149 h =>
    B.gd h v147 true (fun K => B.nilCheck v149 fun v => K v h) fun v150 h =>
    B.gd h v147 true (fun K => B.pv (V.fieldAddr 21 v150) fun v => K v h) fun v151 h =>
    B.gd h v147 true (fun K => B.ld h v151 fun v => K v h) fun v152 h =>
    B.gd h v147 true (fun K => B.call C (N 101) [v152] h K) fun v153 h =>
    B.pick v147 v153 (.bool false) fun v154 =>
    B.gd h v154 true (fun K => K v0 h) fun v156 h =>
    B.gd h v154 true (fun K => B.nilCheck v156 fun v => K v h) fun v157 h =>
    B.gd h v154 true (fun K => B.pv (V.fieldAddr 22 v157) fun v => K v h) fun v158 h =>
    B.gd h v154 true (fun K => B.ld h v158 fun v => K v h) fun v159 h =>
    B.gd h v154 true (fun K => B.call C (N 102) [v159] h K) fun v160 h =>
    B.pick v154 v160 (.bool false) fun v161 =>
    Q v161 h
/-- (ptr storeman/storemankit.bag).apart -/
@[simp] def kit_bag_apart.cps (C : CSem) (N : Nat → Nat) (v0 : AVal) (h : AHeap) (Q : AVal → AHeap → Prop) : Prop :=
  kit_bag_apart.k1 C N Q v0 h
def kit_bag_apart.Imp (C : CSem) (N : Nat → Nat) : Prop := ∀ (v0 : AVal) (h : AHeap) (Q : AVal → AHeap → Prop), kit_bag_apart.cps C N v0 h (dn Q) → C (N 62) [v0] h Q
@[simp] def kit_markByte.k1 (C : CSem) (N : Nat → Nat) (Q : AVal → AHeap → Prop) (v0 v1 : AVal) (h : AHeap) : Prop :=
  B.call C (N 20) [v0, v1] h fun v7 h =>
    B.pv (V.toInt .u64 v7) fun v8 =>
    B.pv (V.bin .mul v8 (.int .u64 11400714819323198485)) fun v9 =>
    B.pv (V.bin .shr v9 (.int .u64 56)) fun v10 =>
    B.pv (V.toInt .u8 v10) fun v11 =>
    Q v11 h
/-- storeman/storemankit.markByte -/
@[simp] def kit_markByte.cps (C : CSem) (N : Nat → Nat) (v0 v1 : AVal) (h : AHeap) (Q : AVal → AHeap → Prop) : Prop :=
  kit_markByte.k1 C N Q v0 v1 h
def kit_markByte.Imp (C : CSem) (N : Nat → Nat) : Prop := ∀ (v0 v1 : AVal) (h : AHeap) (Q : AVal → AHeap → Prop), kit_markByte.cps C N v0 v1 h (dn Q) → C (N 64) [v0, v1] h Q
@[simp] def kit_SameLots.k3 (C : CSem) (N : Nat → Nat) (Q : AVal → AHeap → Prop) (v0 v1 : AVal) (h : AHeap) : Prop :=
  B.pv (V.lenSl v0) fun v7 =>
    B.pv (V.lenSl v1) fun v9 =>
    B.pv (V.bin .neq v7 v9) fun v10 =>
    B.cond v10
    (Q (.bool false) h)
    (LoopR (sameG.l4 6 [.i .i64, .s, .i .i64, .i .i64, .i .i64, .b] Q v0 v1) [(.int .i64 0)] h)
/-- storeman/storemankit.SameLots -/
def kit_SameLots.cps (C : CSem) (N : Nat → Nat) (v0 v1 : AVal) (h : AHeap) (Q : AVal → AHeap → Prop) : Prop :=
  kit_SameLots.k3 C N Q v0 v1 h
def kit_SameLots.Imp (C : CSem) (N : Nat → Nat) : Prop := ∀ (v0 v1 : AVal) (h : AHeap) (Q : AVal → AHeap → Prop), kit_SameLots.cps C N v0 v1 h (dn Q) → C (N 74) [v0, v1] h Q
@[simp] def kit_SameUses.k3 (C : CSem) (N : Nat → Nat) (Q : AVal → AHeap → Prop) (v0 v1 : AVal) (h : AHeap) : Prop :=
  B.pv (V.lenSl v0) fun v7 =>
    B.pv (V.lenSl v1) fun v9 =>
    B.pv (V.bin .neq v7 v9) fun v10 =>
    B.cond v10
    (Q (.bool false) h)
    (LoopR (sameG.l4 3 [.i .i64, .i .i64, .i .i64] Q v0 v1) [(.int .i64 0)] h)
/-- storeman/storemankit.SameUses -/
def kit_SameUses.cps (C : CSem) (N : Nat → Nat) (v0 v1 : AVal) (h : AHeap) (Q : AVal → AHeap → Prop) : Prop :=
  kit_SameUses.k3 C N Q v0 v1 h
def kit_SameUses.Imp (C : CSem) (N : Nat → Nat) : Prop := ∀ (v0 v1 : AVal) (h : AHeap) (Q : AVal → AHeap → Prop), kit_SameUses.cps C N v0 v1 h (dn Q) → C (N 75) [v0, v1] h Q
@[simp] def kit_markLot.k1 (C : CSem) (N : Nat → Nat) (Q : AVal → AHeap → Prop) (v0 v1 : AVal) (h : AHeap) : Prop :=
  B.call C (N 20) [v0, v1] h fun v7 h =>
    B.pv (A.bld [(0, none, v7)] [.int .i64 0, .str [], .int .i64 0, .int .i64 0, .int .i64 0, .bool false]) fun v8 =>
    B.pv (V.setN 0 6 v8 (.agg [.int .i64 0, .str [], .int .i64 0, .int .i64 0, .int .i64 0, .bool false])) fun c4 =>
    B.pv (oneOf (joinV (V.fieldN 0 6 c4) (some []))) fun v => Q v h
/-- storeman/storemankit.markLot -/
@[simp] def kit_markLot.cps (C : CSem) (N : Nat → Nat) (v0 v1 : AVal) (h : AHeap) (Q : AVal → AHeap → Prop) : Prop :=
  kit_markLot.k1 C N Q v0 v1 h
def kit_markLot.Imp (C : CSem) (N : Nat → Nat) : Prop := ∀ (v0 v1 : AVal) (h : AHeap) (Q : AVal → AHeap → Prop), kit_markLot.cps C N v0 v1 h (dn Q) → C (N 77) [v0, v1] h Q
@[simp] def kit_markUse.k1 (C : CSem) (N : Nat → Nat) (Q : AVal → AHeap → Prop) (v0 v1 : AVal) (h : AHeap) : Prop :=
  B.call C (N 20) [v0, v1] h fun v7 h =>
    B.pv (A.bld [(1, none, v7)] [.int .i64 0, .int .i64 0, .int .i64 0]) fun v8 =>
    B.pv (V.setN 0 3 v8 (.agg [.int .i64 0, .int .i64 0, .int .i64 0])) fun c4 =>
    B.pv (oneOf (joinV (V.fieldN 0 3 c4) (some []))) fun v => Q v h
/-- storeman/storemankit.markUse -/
@[simp] def kit_markUse.cps (C : CSem) (N : Nat → Nat) (v0 v1 : AVal) (h : AHeap) (Q : AVal → AHeap → Prop) : Prop :=
  kit_markUse.k1 C N Q v0 v1 h
def kit_markUse.Imp (C : CSem) (N : Nat → Nat) : Prop := ∀ (v0 v1 : AVal) (h : AHeap) (Q : AVal → AHeap → Prop), kit_markUse.cps C N v0 v1 h (dn Q) → C (N 78) [v0, v1] h Q
@[simp] def kit_flatWords.k1 (C : CSem) (N : Nat → Nat) (Q : AVal → AHeap → Prop) (Y1 : List AVal → AHeap → Prop) (Y2 : List AVal → AHeap → Prop) (v0 v5 v14 v15 : AVal) (h : AHeap) : Prop :=
  B.pv (V.idxS 1 v0 v14) fun v166 =>
    B.ld h v166 fun v167 =>
    B.pv (V.lenSl v167) fun v168 =>
    B.pv (V.bin .lss v15 v168) fun v169 =>
    B.cond v169
    (B.pv (V.idxS 1 v0 v14) fun v174 =>
    B.ld h v174 fun v175 =>
    B.pv (V.idxS 1 v175 v15) fun v177 =>
    B.ld h v177 fun v178 =>
    B.call C (N 20) [v14, v15] h (B.keepS h [(v174, none), (v177, none)] (fun v181 h => B.pv (V.toInt .u64 v181) fun v182 =>
    B.pv (V.bin .eql v178 v182) fun v183 =>
    B.pv (V.un .not v183) fun v184 =>
    B.gd h v184 false (fun K => K v5 h) fun v186 h =>
    B.gd h v184 false (fun K => K v14 h) fun v187 h =>
    B.gd h v184 false (fun K => B.pv (V.idxS 1 v186 v187) fun v => K v h) fun v188 h =>
    B.gd h v184 false (fun K => B.ld h v188 fun v => K v h) fun v189 h =>
    B.gd h v184 false (fun K => K v15 h) fun v190 h =>
    B.gd h v184 false (fun K => B.pv (V.idxS 1 v189 v190) fun v => K v h) fun v191 h =>
    B.gd h v184 false (fun K => B.ld h v191 fun v => K v h) fun v192 h =>
    B.gd h v184 false (fun K => K v14 h) fun v193 h =>
    B.gd h v184 false (fun K => K v15 h) fun v194 h =>
    B.gd h v184 false (fun K => B.call C (N 20) [v193, v194] h (B.keepS h [(v188, none), (v191, none)] K)) fun v195 h =>
    B.gd h v184 false (fun K => B.pv (V.toInt .u64 v195) fun v => K v h) fun v196 h =>
    B.gd h v184 false (fun K => B.pv (V.bin .eql v192 v196) fun v => K v h) fun v197 h =>
    B.gd h v184 false (fun K => B.pv (V.un .not v197) fun v => K v h) fun v198 h =>
    B.pick v184 (.bool true) v198 fun v199 =>
    B.cond v199
    (Q (.bool false) h)
    (B.pv (V.bin .add v15 (.int .i64 1)) fun v171 =>
    Y2 [v171] h))))
    (B.pv (V.bin .add v14 (.int .i64 1)) fun v162 =>
    Y1 [v162] h)
@[simp] def kit_flatWords.l2 (C : CSem) (N : Nat → Nat) (Q : AVal → AHeap → Prop) (Y1 : List AVal → AHeap → Prop) (v0 v5 v14 : AVal) : List AVal → AHeap → (List AVal → AHeap → Prop) → Prop
  | [v15], h, Y2 => kit_flatWords.k1 C N Q Y1 Y2 v0 v5 v14 v15 h
  | _, _, _ => False
@[simp] def kit_flatWords.k3 (C : CSem) (N : Nat → Nat) (Q : AVal → AHeap → Prop) (Y1 : List AVal → AHeap → Prop) (v0 v5 v14 : AVal) (h : AHeap) : Prop :=
  B.pv (V.lenSl v0) fun v159 =>
    B.pv (V.bin .lss v14 v159) fun v160 =>
    B.cond v160
    (LoopR (kit_flatWords.l2 C N Q Y1 v0 v5 v14) [(.int .i64 0)] h)
    (Q (.bool true) h)
@[simp] def kit_flatWords.l4 (C : CSem) (N : Nat → Nat) (Q : AVal → AHeap → Prop) (v0 v5 : AVal) : List AVal → AHeap → (List AVal → AHeap → Prop) → Prop
  | [v14], h, Y1 => kit_flatWords.k3 C N Q Y1 v0 v5 v14 h
  | _, _, _ => False
@[simp] def kit_flatWords.k5 (C : CSem) (N : Nat → Nat) (Q : AVal → AHeap → Prop) (Y3 : List AVal → AHeap → Prop) (v0 v5 v11 v12 : AVal) (h : AHeap) : Prop :=
  B.pv (V.idxS 1 v0 v11) fun v152 =>
    B.ld h v152 fun v153 =>
    B.appW h 1 8 v153 v12 fun v155 h =>
    B.pv (V.idxS 1 v5 v11) fun v156 =>
    B.st h v156 v155 fun h =>
    B.pv (V.bin .add v11 (.int .i64 1)) fun v132 =>
    Y3 [v132] h
@[simp] def kit_flatWords.k6 (C : CSem) (N : Nat → Nat) (Q : AVal → AHeap → Prop) (Y3 : List AVal → AHeap → Prop) (Y4 : List AVal → AHeap → Prop) (v0 v5 v11 v12 v13 : AVal) (h : AHeap) : Prop :=
  B.pv (V.bin .lss v13 (.int .i64 64)) fun v135 =>
    B.cond v135
    (B.pv (V.lenSl v0) fun v142 =>
    B.pv (V.bin .add v11 v142) fun v143 =>
    B.call C (N 20) [v143, v13] h fun v145 h =>
    B.pv (V.toInt .u64 v145) fun v146 =>
    B.pv (V.idxS 1 v12 v13) fun v147 =>
    B.st h v147 v146 fun h =>
    B.pv (V.bin .add v13 (.int .i64 1)) fun v137 =>
    Y4 [v137] h)
    (kit_flatWords.k5 C N Q Y3 v0 v5 v11 v12 h)
@[simp] def kit_flatWords.l7 (C : CSem) (N : Nat → Nat) (Q : AVal → AHeap → Prop) (Y3 : List AVal → AHeap → Prop) (v0 v5 v11 v12 : AVal) : List AVal → AHeap → (List AVal → AHeap → Prop) → Prop
  | [v13], h, Y4 => kit_flatWords.k6 C N Q Y3 Y4 v0 v5 v11 v12 v13 h
  | _, _, _ => False
@[simp] def kit_flatWords.k8 (C : CSem) (N : Nat → Nat) (Q : AVal → AHeap → Prop) (Y3 : List AVal → AHeap → Prop) (v0 v5 v11 : AVal) (h : AHeap) : Prop :=
  B.pv (V.lenSl v0) fun v129 =>
    B.pv (V.bin .lss v11 v129) fun v130 =>
    B.cond v130
    (0 < 1 ∧ B.mks h 8 (some [.int .u64 0]) (.int .i64 64) (.int .i64 64) fun v133 h =>
    LoopR (kit_flatWords.l7 C N Q Y3 v0 v5 v11 v133) [(.int .i64 0)] h)
    (LoopR (kit_flatWords.l4 C N Q v0 v5) [(.int .i64 0)] h)
@[simp] def kit_flatWords.l9 (C : CSem) (N : Nat → Nat) (Q : AVal → AHeap → Prop) (v0 v5 : AVal) : List AVal → AHeap → (List AVal → AHeap → Prop) → Prop
  | [v11], h, Y3 => kit_flatWords.k8 C N Q Y3 v0 v5 v11 h
  | _, _, _ => False
@[simp] def kit_flatWords.k10 (C : CSem) (N : Nat → Nat) (Q : AVal → AHeap → Prop) (Y5 : List AVal → AHeap → Prop) (Y6 : List AVal → AHeap → Prop) (v0 v5 v9 v10 : AVal) (h : AHeap) : Prop :=
  B.pv (V.idxS 1 v5 v9) fun v84 =>
    B.ld h v84 fun v85 =>
    B.pv (V.lenSl v85) fun v86 =>
    B.pv (V.bin .lss v10 v86) fun v87 =>
    B.cond v87
    (B.pv (V.idxS 1 v5 v9) fun v92 =>
    B.ld h v92 fun v93 =>
    B.pv (V.idxS 1 v93 v10) fun v95 =>
    B.ld h v95 fun v96 =>
    B.call C (N 20) [v9, v10] h (B.keepS h [(v92, none), (v95, none)] (fun v99 h => B.pv (V.toInt .u64 v99) fun v100 =>
    B.pv (V.bin .eql v96 v100) fun v101 =>
    B.pv (V.un .not v101) fun v102 =>
    B.gd h v102 false (fun K => K v10 h) fun v104 h =>
    B.gd h v102 false (fun K => K v0 h) fun v105 h =>
    B.gd h v102 false (fun K => K v9 h) fun v106 h =>
    B.gd h v102 false (fun K => B.pv (V.idxS 1 v105 v106) fun v => K v h) fun v107 h =>
    B.gd h v102 false (fun K => B.ld h v107 fun v => K v h) fun v108 h =>
    B.gd h v102 false (fun K => B.pv (V.lenSl v108) fun v => K v h) fun v109 h =>
    B.gd h v102 false (fun K => B.pv (V.bin .lss v104 v109) fun v => K v h) fun v110 h =>
    B.gd h v102 false (fun K => K v110 h) fun v111 h =>
    B.gd h v111 true (fun K => K v0 h) fun v112 h =>
    B.gd h v111 true (fun K => K v9 h) fun v113 h =>
    B.gd h v111 true (fun K => B.pv (V.idxS 1 v112 v113) fun v => K v h) fun v114 h =>
    B.gd h v111 true (fun K => B.ld h v114 fun v => K v h) fun v115 h =>
    B.gd h v111 true (fun K => K v10 h) fun v116 h =>
    B.gd h v111 true (fun K => B.pv (V.idxS 1 v115 v116) fun v => K v h) fun v117 h =>
    B.gd h v111 true (fun K => B.ld h v117 fun v => K v h) fun v118 h =>
    B.gd h v111 true (fun K => K v9 h) fun v119 h =>
    B.gd h v111 true (fun K => K v10 h) fun v120 h =>
    B.gd h v111 true (fun K => B.call C (N 20) [v119, v120] h (B.keepS h [(v114, none), (v117, none)] K)) fun v121 h =>
    B.gd h v111 true (fun K => B.pv (V.toInt .u64 v121) fun v => K v h) fun v122 h =>
    B.gd h v111 true (fun K => B.pv (V.bin .eql v118 v122) fun v => K v h) fun v123 h =>
    B.gd h v111 true (fun K => B.pv (V.un .not v123) fun v => K v h) fun v124 h =>
    B.gd h v102 false (fun K => B.pick v111 v124 (.bool false) fun v => K v h) fun v125 h =>
    B.pick v102 (.bool true) v125 fun v126 =>
    B.cond v126
    (Q (.bool false) h)
    (B.pv (V.bin .add v10 (.int .i64 1)) fun v89 =>
    Y6 [v89] h))))
    (B.pv (V.bin .add v9 (.int .i64 1)) fun v80 =>
    Y5 [v80] h)
@[simp] def kit_flatWords.l11 (C : CSem) (N : Nat → Nat) (Q : AVal → AHeap → Prop) (Y5 : List AVal → AHeap → Prop) (v0 v5 v9 : AVal) : List AVal → AHeap → (List AVal → AHeap → Prop) → Prop
  | [v10], h, Y6 => kit_flatWords.k10 C N Q Y5 Y6 v0 v5 v9 v10 h
  | _, _, _ => False
@[simp] def kit_flatWords.k12 (C : CSem) (N : Nat → Nat) (Q : AVal → AHeap → Prop) (Y5 : List AVal → AHeap → Prop) (v0 v5 v9 : AVal) (h : AHeap) : Prop :=
  B.pv (V.lenSl v0) fun v77 =>
    B.pv (V.bin .lss v9 v77) fun v78 =>
    B.cond v78
    (LoopR (kit_flatWords.l11 C N Q Y5 v0 v5 v9) [(.int .i64 0)] h)
    (LoopR (kit_flatWords.l9 C N Q v0 v5) [(.int .i64 0)] h)
@[simp] def kit_flatWords.l13 (C : CSem) (N : Nat → Nat) (Q : AVal → AHeap → Prop) (v0 v5 : AVal) : List AVal → AHeap → (List AVal → AHeap → Prop) → Prop
  | [v9], h, Y5 => kit_flatWords.k12 C N Q Y5 v0 v5 v9 h
  | _, _, _ => False
@[simp] def kit_flatWords.k14 (C : CSem) (N : Nat → Nat) (Q : AVal → AHeap → Prop) (Y7 : List AVal → AHeap → Prop) (Y8 : List AVal → AHeap → Prop) (v0 v5 v6 v7 v8 : AVal) (h : AHeap) : Prop :=
  B.pv (V.bin .lss v8 (.int .i64 64)) fun v55 =>
    B.cond v55
    (B.pv (V.idxS 1 v0 v6) fun v62 =>
    B.ld h v62 fun v63 =>
    B.pv (V.lenSl v63) fun v64 =>
    B.pv (V.bin .add v64 v8) fun v66 =>
    B.call C (N 20) [v6, v66] h fun v67 h =>
    B.pv (V.toInt .u64 v67) fun v68 =>
    B.newO h (fillL [(0, none, v68)] (repL 1 [.int .u64 0])) fun i69 h =>
    B.appW h 1 8 v7 (.sl i69 0 0 1 1 1) fun v70 h =>
    B.pv (V.bin .add v8 (.int .i64 1)) fun v57 =>
    Y8 [v70, v57] h)
    (B.pv (V.idxS 1 v5 v6) fun v74 =>
    B.st h v74 v7 fun h =>
    B.pv (V.bin .add v6 (.int .i64 1)) fun v49 =>
    Y7 [v49] h)
@[simp] def kit_flatWords.l15 (C : CSem) (N : Nat → Nat) (Q : AVal → AHeap → Prop) (Y7 : List AVal → AHeap → Prop) (v0 v5 v6 : AVal) : List AVal → AHeap → (List AVal → AHeap → Prop) → Prop
  | [v7, v8], h, Y8 => kit_flatWords.k14 C N Q Y7 Y8 v0 v5 v6 v7 v8 h
  | _, _, _ => False
@[simp] def kit_flatWords.k16 (C : CSem) (N : Nat → Nat) (Q : AVal → AHeap → Prop) (Y7 : List AVal → AHeap → Prop) (v0 v5 v6 : AVal) (h : AHeap) : Prop :=
  B.pv (V.lenSl v0) fun v46 =>
    B.pv (V.bin .lss v6 v46) fun v47 =>
    B.cond v47
    (B.pv (V.idxS 1 v0 v6) fun v52 =>
    B.ld h v52 fun v53 =>
    LoopR (kit_flatWords.l15 C N Q Y7 v0 v5 v6) [v53, (.int .i64 0)] h)
    (LoopR (kit_flatWords.l13 C N Q v0 v5) [(.int .i64 0)] h)
@[simp] def kit_flatWords.l17 (C : CSem) (N : Nat → Nat) (Q : AVal → AHeap → Prop) (v0 v5 : AVal) : List AVal → AHeap → (List AVal → AHeap → Prop) → Prop
  | [v6], h, Y7 => kit_flatWords.k16 C N Q Y7 v0 v5 v6 h
  | _, _, _ => False
@[simp] def kit_flatWords.k18 (C : CSem) (N : Nat → Nat) (Q : AVal → AHeap → Prop) (Y9 : List AVal → AHeap → Prop) (Y10 : List AVal → AHeap → Prop) (v0 v3 v4 : AVal) (h : AHeap) : Prop :=
  B.pv (V.idxS 1 v0 v3) fun v25 =>
    B.ld h v25 fun v26 =>
    B.pv (V.lenSl v26) fun v27 =>
    B.pv (V.bin .lss v4 v27) fun v28 =>
    B.cond v28
    (B.pv (V.idxS 1 v0 v3) fun v33 =>
    B.ld h v33 fun v34 =>
    B.call C (N 20) [v3, v4] h (B.keepS h [(v33, none)] (fun v38 h => B.pv (V.toInt .u64 v38) fun v39 =>
    B.pv (V.idxS 1 v34 v4) fun v40 =>
    B.st h v40 v39 fun h =>
    B.pv (V.bin .add v4 (.int .i64 1)) fun v30 =>
    Y10 [v30] h)))
    (B.pv (V.bin .add v3 (.int .i64 1)) fun v21 =>
    Y9 [v21] h)
@[simp] def kit_flatWords.l19 (C : CSem) (N : Nat → Nat) (Q : AVal → AHeap → Prop) (Y9 : List AVal → AHeap → Prop) (v0 v3 : AVal) : List AVal → AHeap → (List AVal → AHeap → Prop) → Prop
  | [v4], h, Y10 => kit_flatWords.k18 C N Q Y9 Y10 v0 v3 v4 h
  | _, _, _ => False
@[simp] def kit_flatWords.k20 (C : CSem) (N : Nat → Nat) (Q : AVal → AHeap → Prop) (Y9 : List AVal → AHeap → Prop) (v0 v3 : AVal) (h : AHeap) : Prop :=
  B.pv (V.lenSl v0) fun v18 =>
    B.pv (V.bin .lss v3 v18) fun v19 =>
    B.cond v19
    (LoopR (kit_flatWords.l19 C N Q Y9 v0 v3) [(.int .i64 0)] h)
    (B.pv (V.lenSl v0) fun v42 =>
    0 < 1 ∧ B.mks h 24 (some [.nils]) v42 v42 fun v43 h =>
    LoopR (kit_flatWords.l17 C N Q v0 v43) [(.int .i64 0)] h)
@[simp] def kit_flatWords.l21 (C : CSem) (N : Nat → Nat) (Q : AVal → AHeap → Prop) (v0 : AVal) : List AVal → AHeap → (List AVal → AHeap → Prop) → Prop
  | [v3], h, Y9 => kit_flatWords.k20 C N Q Y9 v0 v3 h
  | _, _, _ => False
/-- storeman/storemankit.flatWords -/
@[simp] def kit_flatWords.cps (C : CSem) (N : Nat → Nat) (v0 : AVal) (h : AHeap) (Q : AVal → AHeap → Prop) : Prop :=
  LoopR (kit_flatWords.l21 C N Q v0) [(.int .i64 0)] h
def kit_flatWords.Imp (C : CSem) (N : Nat → Nat) : Prop := ∀ (v0 : AVal) (h : AHeap) (Q : AVal → AHeap → Prop), kit_flatWords.cps C N v0 h (dn Q) → C (N 80) [v0] h Q
/-- storeman/storemankit.flatInts -/
def kit_flatInts.cps (C : CSem) (N : Nat → Nat) (v0 : AVal) (h : AHeap) (Q : AVal → AHeap → Prop) : Prop :=
  LoopR (flatG.l103 (opsS 8 (.int .i64 0) (N 20)) C Q v0) [(.int .i64 0)] h
def kit_flatInts.Imp (C : CSem) (N : Nat → Nat) : Prop := ∀ (v0 : AVal) (h : AHeap) (Q : AVal → AHeap → Prop), kit_flatInts.cps C N v0 h (dn Q) → C (N 81) [v0] h Q
@[simp] def kit_flatLongs.k1 (C : CSem) (N : Nat → Nat) (Q : AVal → AHeap → Prop) (Y1 : List AVal → AHeap → Prop) (Y2 : List AVal → AHeap → Prop) (v0 v5 v14 v15 : AVal) (h : AHeap) : Prop :=
  B.pv (V.idxS 1 v0 v14) fun v161 =>
    B.ld h v161 fun v162 =>
    B.pv (V.lenSl v162) fun v163 =>
    B.pv (V.bin .lss v15 v163) fun v164 =>
    B.cond v164
    (B.pv (V.idxS 1 v0 v14) fun v169 =>
    B.ld h v169 fun v170 =>
    B.pv (V.idxS 1 v170 v15) fun v172 =>
    B.ld h v172 fun v173 =>
    B.call C (N 20) [v14, v15] h (B.keepS h [(v169, none), (v172, none)] (fun v176 h => B.pv (V.bin .eql v173 v176) fun v177 =>
    B.pv (V.un .not v177) fun v178 =>
    B.gd h v178 false (fun K => K v5 h) fun v180 h =>
    B.gd h v178 false (fun K => K v14 h) fun v181 h =>
    B.gd h v178 false (fun K => B.pv (V.idxS 1 v180 v181) fun v => K v h) fun v182 h =>
    B.gd h v178 false (fun K => B.ld h v182 fun v => K v h) fun v183 h =>
    B.gd h v178 false (fun K => K v15 h) fun v184 h =>
    B.gd h v178 false (fun K => B.pv (V.idxS 1 v183 v184) fun v => K v h) fun v185 h =>
    B.gd h v178 false (fun K => B.ld h v185 fun v => K v h) fun v186 h =>
    B.gd h v178 false (fun K => K v14 h) fun v187 h =>
    B.gd h v178 false (fun K => K v15 h) fun v188 h =>
    B.gd h v178 false (fun K => B.call C (N 20) [v187, v188] h (B.keepS h [(v182, none), (v185, none)] K)) fun v189 h =>
    B.gd h v178 false (fun K => B.pv (V.bin .eql v186 v189) fun v => K v h) fun v190 h =>
    B.gd h v178 false (fun K => B.pv (V.un .not v190) fun v => K v h) fun v191 h =>
    B.pick v178 (.bool true) v191 fun v192 =>
    B.cond v192
    (Q (.bool false) h)
    (B.pv (V.bin .add v15 (.int .i64 1)) fun v166 =>
    Y2 [v166] h))))
    (B.pv (V.bin .add v14 (.int .i64 1)) fun v157 =>
    Y1 [v157] h)
@[simp] def kit_flatLongs.l2 (C : CSem) (N : Nat → Nat) (Q : AVal → AHeap → Prop) (Y1 : List AVal → AHeap → Prop) (v0 v5 v14 : AVal) : List AVal → AHeap → (List AVal → AHeap → Prop) → Prop
  | [v15], h, Y2 => kit_flatLongs.k1 C N Q Y1 Y2 v0 v5 v14 v15 h
  | _, _, _ => False
@[simp] def kit_flatLongs.k3 (C : CSem) (N : Nat → Nat) (Q : AVal → AHeap → Prop) (Y1 : List AVal → AHeap → Prop) (v0 v5 v14 : AVal) (h : AHeap) : Prop :=
  B.pv (V.lenSl v0) fun v154 =>
    B.pv (V.bin .lss v14 v154) fun v155 =>
    B.cond v155
    (LoopR (kit_flatLongs.l2 C N Q Y1 v0 v5 v14) [(.int .i64 0)] h)
    (Q (.bool true) h)
@[simp] def kit_flatLongs.l4 (C : CSem) (N : Nat → Nat) (Q : AVal → AHeap → Prop) (v0 v5 : AVal) : List AVal → AHeap → (List AVal → AHeap → Prop) → Prop
  | [v14], h, Y1 => kit_flatLongs.k3 C N Q Y1 v0 v5 v14 h
  | _, _, _ => False
@[simp] def kit_flatLongs.k5 (C : CSem) (N : Nat → Nat) (Q : AVal → AHeap → Prop) (Y3 : List AVal → AHeap → Prop) (v0 v5 v11 v12 : AVal) (h : AHeap) : Prop :=
  B.pv (V.idxS 1 v0 v11) fun v147 =>
    B.ld h v147 fun v148 =>
    B.appW h 1 8 v148 v12 fun v150 h =>
    B.pv (V.idxS 1 v5 v11) fun v151 =>
    B.st h v151 v150 fun h =>
    B.pv (V.bin .add v11 (.int .i64 1)) fun v128 =>
    Y3 [v128] h
@[simp] def kit_flatLongs.k6 (C : CSem) (N : Nat → Nat) (Q : AVal → AHeap → Prop) (Y3 : List AVal → AHeap → Prop) (Y4 : List AVal → AHeap → Prop) (v0 v5 v11 v12 v13 : AVal) (h : AHeap) : Prop :=
  B.pv (V.bin .lss v13 (.int .i64 64)) fun v131 =>
    B.cond v131
    (B.pv (V.lenSl v0) fun v138 =>
    B.pv (V.bin .add v11 v138) fun v139 =>
    B.call C (N 20) [v139, v13] h fun v141 h =>
    B.pv (V.idxS 1 v12 v13) fun v142 =>
    B.st h v142 v141 fun h =>
    B.pv (V.bin .add v13 (.int .i64 1)) fun v133 =>
    Y4 [v133] h)
    (kit_flatLongs.k5 C N Q Y3 v0 v5 v11 v12 h)
@[simp] def kit_flatLongs.l7 (C : CSem) (N : Nat → Nat) (Q : AVal → AHeap → Prop) (Y3 : List AVal → AHeap → Prop) (v0 v5 v11 v12 : AVal) : List AVal → AHeap → (List AVal → AHeap → Prop) → Prop
  | [v13], h, Y4 => kit_flatLongs.k6 C N Q Y3 Y4 v0 v5 v11 v12 v13 h
  | _, _, _ => False
@[simp] def kit_flatLongs.k8 (C : CSem) (N : Nat → Nat) (Q : AVal → AHeap → Prop) (Y3 : List AVal → AHeap → Prop) (v0 v5 v11 : AVal) (h : AHeap) : Prop :=
  B.pv (V.lenSl v0) fun v125 =>
    B.pv (V.bin .lss v11 v125) fun v126 =>
    B.cond v126
    (0 < 1 ∧ B.mks h 8 (some [.int .i64 0]) (.int .i64 64) (.int .i64 64) fun v129 h =>
    LoopR (kit_flatLongs.l7 C N Q Y3 v0 v5 v11 v129) [(.int .i64 0)] h)
    (LoopR (kit_flatLongs.l4 C N Q v0 v5) [(.int .i64 0)] h)
@[simp] def kit_flatLongs.l9 (C : CSem) (N : Nat → Nat) (Q : AVal → AHeap → Prop) (v0 v5 : AVal) : List AVal → AHeap → (List AVal → AHeap → Prop) → Prop
  | [v11], h, Y3 => kit_flatLongs.k8 C N Q Y3 v0 v5 v11 h
  | _, _, _ => False
@[simp] def kit_flatLongs.k10 (C : CSem) (N : Nat → Nat) (Q : AVal → AHeap → Prop) (Y5 : List AVal → AHeap → Prop) (Y6 : List AVal → AHeap → Prop) (v0 v5 v9 v10 : AVal) (h : AHeap) : Prop :=
  B.pv (V.idxS 1 v5 v9) fun v82 =>
    B.ld h v82 fun v83 =>
    B.pv (V.lenSl v83) fun v84 =>
    B.pv (V.bin .lss v10 v84) fun v85 =>
    B.cond v85
    (B.pv (V.idxS 1 v5 v9) fun v90 =>
    B.ld h v90 fun v91 =>
    B.pv (V.idxS 1 v91 v10) fun v93 =>
    B.ld h v93 fun v94 =>
    B.call C (N 20) [v9, v10] h (B.keepS h [(v90, none), (v93, none)] (fun v97 h => B.pv (V.bin .eql v94 v97) fun v98 =>
    B.pv (V.un .not v98) fun v99 =>
    B.gd h v99 false (fun K => K v10 h) fun v101 h =>
    B.gd h v99 false (fun K => K v0 h) fun v102 h =>
    B.gd h v99 false (fun K => K v9 h) fun v103 h =>
    B.gd h v99 false (fun K => B.pv (V.idxS 1 v102 v103) fun v => K v h) fun v104 h =>
    B.gd h v99 false (fun K => B.ld h v104 fun v => K v h) fun v105 h =>
    B.gd h v99 false (fun K => B.pv (V.lenSl v105) fun v => K v h) fun v106 h =>
    B.gd h v99 false (fun K => B.pv (V.bin .lss v101 v106) fun v => K v h) fun v107 h =>
    B.gd h v99 false (fun K => K v107 h) fun v108 h =>
    B.gd h v108 true (fun K => K v0 h) fun v109 h =>
    B.gd h v108 true (fun K => K v9 h) fun v110 h =>
    B.gd h v108 true (fun K => B.pv (V.idxS 1 v109 v110) fun v => K v h) fun v111 h =>
    B.gd h v108 true (fun K => B.ld h v111 fun v => K v h) fun v112 h =>
    B.gd h v108 true (fun K => K v10 h) fun v113 h =>
    B.gd h v108 true (fun K => B.pv (V.idxS 1 v112 v113) fun v => K v h) fun v114 h =>
    B.gd h v108 true (fun K => B.ld h v114 fun v => K v h) fun v115 h =>
    B.gd h v108 true (fun K => K v9 h) fun v116 h =>
    B.gd h v108 true (fun K => K v10 h) fun v117 h =>
    B.gd h v108 true (fun K => B.call C (N 20) [v116, v117] h (B.keepS h [(v111, none), (v114, none)] K)) fun v118 h =>
    B.gd h v108 true (fun K => B.pv (V.bin .eql v115 v118) fun v => K v h) fun v119 h =>
    B.gd h v108 true (fun K => B.pv (V.un .not v119) fun v => K v h) fun v120 h =>
    B.gd h v99 false (fun K => B.pick v108 v120 (.bool false) fun v => K v h) fun v121 h =>
    B.pick v99 (.bool true) v121 fun v122 =>
    B.cond v122
    (Q (.bool false) h)
    (B.pv (V.bin .add v10 (.int .i64 1)) fun v87 =>
    Y6 [v87] h))))
    (B.pv (V.bin .add v9 (.int .i64 1)) fun v78 =>
    Y5 [v78] h)
@[simp] def kit_flatLongs.l11 (C : CSem) (N : Nat → Nat) (Q : AVal → AHeap → Prop) (Y5 : List AVal → AHeap → Prop) (v0 v5 v9 : AVal) : List AVal → AHeap → (List AVal → AHeap → Prop) → Prop
  | [v10], h, Y6 => kit_flatLongs.k10 C N Q Y5 Y6 v0 v5 v9 v10 h
  | _, _, _ => False
@[simp] def kit_flatLongs.k12 (C : CSem) (N : Nat → Nat) (Q : AVal → AHeap → Prop) (Y5 : List AVal → AHeap → Prop) (v0 v5 v9 : AVal) (h : AHeap) : Prop :=
  B.pv (V.lenSl v0) fun v75 =>
    B.pv (V.bin .lss v9 v75) fun v76 =>
    B.cond v76
    (LoopR (kit_flatLongs.l11 C N Q Y5 v0 v5 v9) [(.int .i64 0)] h)
    (LoopR (kit_flatLongs.l9 C N Q v0 v5) [(.int .i64 0)] h)
@[simp] def kit_flatLongs.l13 (C : CSem) (N : Nat → Nat) (Q : AVal → AHeap → Prop) (v0 v5 : AVal) : List AVal → AHeap → (List AVal → AHeap → Prop) → Prop
  | [v9], h, Y5 => kit_flatLongs.k12 C N Q Y5 v0 v5 v9 h
  | _, _, _ => False
@[simp] def kit_flatLongs.k14 (C : CSem) (N : Nat → Nat) (Q : AVal → AHeap → Prop) (Y7 : List AVal → AHeap → Prop) (Y8 : List AVal → AHeap → Prop) (v0 v5 v6 v7 v8 : AVal) (h : AHeap) : Prop :=
  B.pv (V.bin .lss v8 (.int .i64 64)) fun v54 =>
    B.cond v54
    (B.pv (V.idxS 1 v0 v6) fun v61 =>
    B.ld h v61 fun v62 =>
    B.pv (V.lenSl v62) fun v63 =>
    B.pv (V.bin .add v63 v8) fun v65 =>
    B.call C (N 20) [v6, v65] h fun v66 h =>
    B.newO h (fillL [(0, none, v66)] (repL 1 [.int .i64 0])) fun i67 h =>
    B.appW h 1 8 v7 (.sl i67 0 0 1 1 1) fun v68 h =>
    B.pv (V.bin .add v8 (.int .i64 1)) fun v56 =>
    Y8 [v68, v56] h)
    (B.pv (V.idxS 1 v5 v6) fun v72 =>
    B.st h v72 v7 fun h =>
    B.pv (V.bin .add v6 (.int .i64 1)) fun v48 =>
    Y7 [v48] h)
@[simp] def kit_flatLongs.l15 (C : CSem) (N : Nat → Nat) (Q : AVal → AHeap → Prop) (Y7 : List AVal → AHeap → Prop) (v0 v5 v6 : AVal) : List AVal → AHeap → (List AVal → AHeap → Prop) → Prop
  | [v7, v8], h, Y8 => kit_flatLongs.k14 C N Q Y7 Y8 v0 v5 v6 v7 v8 h
  | _, _, _ => False
@[simp] def kit_flatLongs.k16 (C : CSem) (N : Nat → Nat) (Q : AVal → AHeap → Prop) (Y7 : List AVal → AHeap → Prop) (v0 v5 v6 : AVal) (h : AHeap) : Prop :=
  B.pv (V.lenSl v0) fun v45 =>
    B.pv (V.bin .lss v6 v45) fun v46 =>
    B.cond v46
    (B.pv (V.idxS 1 v0 v6) fun v51 =>
    B.ld h v51 fun v52 =>
    LoopR (kit_flatLongs.l15 C N Q Y7 v0 v5 v6) [v52, (.int .i64 0)] h)
    (LoopR (kit_flatLongs.l13 C N Q v0 v5) [(.int .i64 0)] h)
@[simp] def kit_flatLongs.l17 (C : CSem) (N : Nat → Nat) (Q : AVal → AHeap → Prop) (v0 v5 : AVal) : List AVal → AHeap → (List AVal → AHeap → Prop) → Prop
  | [v6], h, Y7 => kit_flatLongs.k16 C N Q Y7 v0 v5 v6 h
  | _, _, _ => False
@[simp] def kit_flatLongs.k18 (C : CSem) (N : Nat → Nat) (Q : AVal → AHeap → Prop) (Y9 : List AVal → AHeap → Prop) (Y10 : List AVal → AHeap → Prop) (v0 v3 v4 : AVal) (h : AHeap) : Prop :=
  B.pv (V.idxS 1 v0 v3) fun v25 =>
    B.ld h v25 fun v26 =>
    B.pv (V.lenSl v26) fun v27 =>
    B.pv (V.bin .lss v4 v27) fun v28 =>
    B.cond v28
    (B.pv (V.idxS 1 v0 v3) fun v33 =>
    B.ld h v33 fun v34 =>
    B.call C (N 20) [v3, v4] h (B.keepS h [(v33, none)] (fun v38 h => B.pv (V.idxS 1 v34 v4) fun v39 =>
    B.st h v39 v38 fun h =>
    B.pv (V.bin .add v4 (.int .i64 1)) fun v30 =>
    Y10 [v30] h)))
    (B.pv (V.bin .add v3 (.int .i64 1)) fun v21 =>
    Y9 [v21] h)
@[simp] def kit_flatLongs.l19 (C : CSem) (N : Nat → Nat) (Q : AVal → AHeap → Prop) (Y9 : List AVal → AHeap → Prop) (v0 v3 : AVal) : List AVal → AHeap → (List AVal → AHeap → Prop) → Prop
  | [v4], h, Y10 => kit_flatLongs.k18 C N Q Y9 Y10 v0 v3 v4 h
  | _, _, _ => False
@[simp] def kit_flatLongs.k20 (C : CSem) (N : Nat → Nat) (Q : AVal → AHeap → Prop) (Y9 : List AVal → AHeap → Prop) (v0 v3 : AVal) (h : AHeap) : Prop :=
  B.pv (V.lenSl v0) fun v18 =>
    B.pv (V.bin .lss v3 v18) fun v19 =>
    B.cond v19
    (LoopR (kit_flatLongs.l19 C N Q Y9 v0 v3) [(.int .i64 0)] h)
    (B.pv (V.lenSl v0) fun v41 =>
    0 < 1 ∧ B.mks h 24 (some [.nils]) v41 v41 fun v42 h =>
    LoopR (kit_flatLongs.l17 C N Q v0 v42) [(.int .i64 0)] h)
@[simp] def kit_flatLongs.l21 (C : CSem) (N : Nat → Nat) (Q : AVal → AHeap → Prop) (v0 : AVal) : List AVal → AHeap → (List AVal → AHeap → Prop) → Prop
  | [v3], h, Y9 => kit_flatLongs.k20 C N Q Y9 v0 v3 h
  | _, _, _ => False
/-- storeman/storemankit.flatLongs -/
@[simp] def kit_flatLongs.cps (C : CSem) (N : Nat → Nat) (v0 : AVal) (h : AHeap) (Q : AVal → AHeap → Prop) : Prop :=
  LoopR (kit_flatLongs.l21 C N Q v0) [(.int .i64 0)] h
def kit_flatLongs.Imp (C : CSem) (N : Nat → Nat) : Prop := ∀ (v0 : AVal) (h : AHeap) (Q : AVal → AHeap → Prop), kit_flatLongs.cps C N v0 h (dn Q) → C (N 82) [v0] h Q
/-- storeman/storemankit.flatTexts -/
def kit_flatTexts.cps (C : CSem) (N : Nat → Nat) (v0 : AVal) (h : AHeap) (Q : AVal → AHeap → Prop) : Prop :=
  LoopR (flatG.l103 (opsS 16 (.str []) (N 106)) C Q v0) [(.int .i64 0)] h
def kit_flatTexts.Imp (C : CSem) (N : Nat → Nat) : Prop := ∀ (v0 : AVal) (h : AHeap) (Q : AVal → AHeap → Prop), kit_flatTexts.cps C N v0 h (dn Q) → C (N 83) [v0] h Q
/-- storeman/storemankit.flatBytes -/
def kit_flatBytes.cps (C : CSem) (N : Nat → Nat) (v0 : AVal) (h : AHeap) (Q : AVal → AHeap → Prop) : Prop :=
  LoopR (flatG.l103 (opsS 1 (.int .u8 0) (N 64)) C Q v0) [(.int .i64 0)] h
def kit_flatBytes.Imp (C : CSem) (N : Nat → Nat) : Prop := ∀ (v0 : AVal) (h : AHeap) (Q : AVal → AHeap → Prop), kit_flatBytes.cps C N v0 h (dn Q) → C (N 84) [v0] h Q
/-- storeman/storemankit.flatWindows -/
def kit_flatWindows.cps (C : CSem) (N : Nat → Nat) (v0 : AVal) (h : AHeap) (Q : AVal → AHeap → Prop) : Prop :=
  LoopR (flatG.l103 (opsF 2 16 [.int .i64 0, .int .i64 0] (N 18) [.i .i64, .i .i64]) C Q v0) [(.int .i64 0)] h
def kit_flatWindows.Imp (C : CSem) (N : Nat → Nat) : Prop := ∀ (v0 : AVal) (h : AHeap) (Q : AVal → AHeap → Prop), kit_flatWindows.cps C N v0 h (dn Q) → C (N 85) [v0] h Q
/-- storeman/storemankit.flatLots -/
def kit_flatLots.cps (C : CSem) (N : Nat → Nat) (v0 : AVal) (h : AHeap) (Q : AVal → AHeap → Prop) : Prop :=
  LoopR (flatG.l103 (opsF 6 56 [.int .i64 0, .str [], .int .i64 0, .int .i64 0, .int .i64 0, .bool false] (N 77) [.i .i64, .s, .i .i64, .i .i64, .i .i64, .b]) C Q v0) [(.int .i64 0)] h
def kit_flatLots.Imp (C : CSem) (N : Nat → Nat) : Prop := ∀ (v0 : AVal) (h : AHeap) (Q : AVal → AHeap → Prop), kit_flatLots.cps C N v0 h (dn Q) → C (N 86) [v0] h Q
/-- storeman/storemankit.flatWants -/
def kit_flatWants.cps (C : CSem) (N : Nat → Nat) (v0 : AVal) (h : AHeap) (Q : AVal → AHeap → Prop) : Prop :=
  LoopR (flatG.l103 (opsF 3 32 [.str [], .int .i64 0, .int .i64 0] (N 107) [.s, .i .i64, .i .i64]) C Q v0) [(.int .i64 0)] h
def kit_flatWants.Imp (C : CSem) (N : Nat → Nat) : Prop := ∀ (v0 : AVal) (h : AHeap) (Q : AVal → AHeap → Prop), kit_flatWants.cps C N v0 h (dn Q) → C (N 87) [v0] h Q
/-- storeman/storemankit.flatUses -/
def kit_flatUses.cps (C : CSem) (N : Nat → Nat) (v0 : AVal) (h : AHeap) (Q : AVal → AHeap → Prop) : Prop :=
  LoopR (flatG.l103 (opsF 3 24 [.int .i64 0, .int .i64 0, .int .i64 0] (N 78) [.i .i64, .i .i64, .i .i64]) C Q v0) [(.int .i64 0)] h
def kit_flatUses.Imp (C : CSem) (N : Nat → Nat) : Prop := ∀ (v0 : AVal) (h : AHeap) (Q : AVal → AHeap → Prop), kit_flatUses.cps C N v0 h (dn Q) → C (N 88) [v0] h Q
/-- storeman/storemankit.flatParts -/
def kit_flatParts.cps (C : CSem) (N : Nat → Nat) (v0 : AVal) (h : AHeap) (Q : AVal → AHeap → Prop) : Prop :=
  LoopR (flatG.l103 (opsF 2 24 [.str [], .int .i64 0] (N 108) [.s, .i .i64]) C Q v0) [(.int .i64 0)] h
def kit_flatParts.Imp (C : CSem) (N : Nat → Nat) : Prop := ∀ (v0 : AVal) (h : AHeap) (Q : AVal → AHeap → Prop), kit_flatParts.cps C N v0 h (dn Q) → C (N 89) [v0] h Q
/-- storeman/storemankit.flatItems -/
def kit_flatItems.cps (C : CSem) (N : Nat → Nat) (v0 : AVal) (h : AHeap) (Q : AVal → AHeap → Prop) : Prop :=
  LoopR (flatG.l103 (opsD C 4 72 [.str [], .int .i64 0, .nils, .nils] (N 109) (N 110)) C Q v0) [(.int .i64 0)] h
def kit_flatItems.Imp (C : CSem) (N : Nat → Nat) : Prop := ∀ (v0 : AVal) (h : AHeap) (Q : AVal → AHeap → Prop), kit_flatItems.cps C N v0 h (dn Q) → C (N 90) [v0] h Q
/-- storeman/storemankit.flatLines -/
def kit_flatLines.cps (C : CSem) (N : Nat → Nat) (v0 : AVal) (h : AHeap) (Q : AVal → AHeap → Prop) : Prop :=
  LoopR (flatG.l103 (opsF 8 80 [.int .i64 0, .str [], .int .i64 0, .int .i64 0, .int .i64 0, .int .u8 0, .int .i64 0, .str []] (N 111) [.i .i64, .s, .i .i64, .i .i64, .i .i64, .i .u8, .i .i64, .s]) C Q v0) [(.int .i64 0)] h
def kit_flatLines.Imp (C : CSem) (N : Nat → Nat) : Prop := ∀ (v0 : AVal) (h : AHeap) (Q : AVal → AHeap → Prop), kit_flatLines.cps C N v0 h (dn Q) → C (N 91) [v0] h Q
/-- storeman/storemankit.flatAsks -/
def kit_flatAsks.cps (C : CSem) (N : Nat → Nat) (v0 : AVal) (h : AHeap) (Q : AVal → AHeap → Prop) : Prop :=
  LoopR (flatG.l103 (opsD C 11 128 [.int .u8 0, .int .i64 0, .str [], .int .i64 0, .int .i64 0, .int .i64 0, .int .i64 0, .int .i64 0, .int .i64 0, .nils, .nils] (N 112) (N 113)) C Q v0) [(.int .i64 0)] h
def kit_flatAsks.Imp (C : CSem) (N : Nat → Nat) : Prop := ∀ (v0 : AVal) (h : AHeap) (Q : AVal → AHeap → Prop), kit_flatAsks.cps C N v0 h (dn Q) → C (N 92) [v0] h Q
/-- storeman/storemankit.flatTells -/
def kit_flatTells.cps (C : CSem) (N : Nat → Nat) (v0 : AVal) (h : AHeap) (Q : AVal → AHeap → Prop) : Prop :=
  LoopR (flatG.l103 (opsD C 7 96 [.int .i64 0, .int .i64 0, .int .i64 0, .str [], .int .u8 0, .nils, .nils] (N 114) (N 42)) C Q v0) [(.int .i64 0)] h
def kit_flatTells.Imp (C : CSem) (N : Nat → Nat) : Prop := ∀ (v0 : AVal) (h : AHeap) (Q : AVal → AHeap → Prop), kit_flatTells.cps C N v0 h (dn Q) → C (N 93) [v0] h Q
/-- storeman/storemankit.flatStates -/
def kit_flatStates.cps (C : CSem) (N : Nat → Nat) (v0 : AVal) (h : AHeap) (Q : AVal → AHeap → Prop) : Prop :=
  LoopR (flatG.l103 (opsD C 6 96 [.int .i64 0, .int .i64 0, .int .i64 0, .nils, .nils, .nils] (N 115) (N 116)) C Q v0) [(.int .i64 0)] h
def kit_flatStates.Imp (C : CSem) (N : Nat → Nat) : Prop := ∀ (v0 : AVal) (h : AHeap) (Q : AVal → AHeap → Prop), kit_flatStates.cps C N v0 h (dn Q) → C (N 94) [v0] h Q
/-- storeman/storemankit.flatRows -/
def kit_flatRows.cps (C : CSem) (N : Nat → Nat) (v0 : AVal) (h : AHeap) (Q : AVal → AHeap → Prop) : Prop :=
  LoopR (flatG.l103 (opsD C 2 48 [.nils, .nils] (N 117) (N 118)) C Q v0) [(.int .i64 0)] h
def kit_flatRows.Imp (C : CSem) (N : Nat → Nat) : Prop := ∀ (v0 : AVal) (h : AHeap) (Q : AVal → AHeap → Prop), kit_flatRows.cps C N v0 h (dn Q) → C (N 95) [v0] h Q
/-- storeman/storemankit.flatTurns -/
def kit_flatTurns.cps (C : CSem) (N : Nat → Nat) (v0 : AVal) (h : AHeap) (Q : AVal → AHeap → Prop) : Prop :=
  LoopR (flatG.l103 (opsD C 3 72 [.nils, .nils, .nils] (N 119) (N 120)) C Q v0) [(.int .i64 0)] h
def kit_flatTurns.Imp (C : CSem) (N : Nat → Nat) : Prop := ∀ (v0 : AVal) (h : AHeap) (Q : AVal → AHeap → Prop), kit_flatTurns.cps C N v0 h (dn Q) → C (N 96) [v0] h Q
/-- storeman/storemankit.flatFates -/
def kit_flatFates.cps (C : CSem) (N : Nat → Nat) (v0 : AVal) (h : AHeap) (Q : AVal → AHeap → Prop) : Prop :=
  LoopR (flatG.l103 (opsF 1 8 [.int .i64 0] (N 121) [.i .i64]) C Q v0) [(.int .i64 0)] h
def kit_flatFates.Imp (C : CSem) (N : Nat → Nat) : Prop := ∀ (v0 : AVal) (h : AHeap) (Q : AVal → AHeap → Prop), kit_flatFates.cps C N v0 h (dn Q) → C (N 97) [v0] h Q
/-- storeman/storemankit.flatDirties -/
def kit_flatDirties.cps (C : CSem) (N : Nat → Nat) (v0 : AVal) (h : AHeap) (Q : AVal → AHeap → Prop) : Prop :=
  LoopR (flatG.l103 (opsF 2 16 [.int .i64 0, .int .i64 0] (N 122) [.i .i64, .i .i64]) C Q v0) [(.int .i64 0)] h
def kit_flatDirties.Imp (C : CSem) (N : Nat → Nat) : Prop := ∀ (v0 : AVal) (h : AHeap) (Q : AVal → AHeap → Prop), kit_flatDirties.cps C N v0 h (dn Q) → C (N 98) [v0] h Q
/-- storeman/storemankit.flatOpens -/
def kit_flatOpens.cps (C : CSem) (N : Nat → Nat) (v0 : AVal) (h : AHeap) (Q : AVal → AHeap → Prop) : Prop :=
  LoopR (flatG.l103 (opsF 2 16 [.int .i64 0, .int .i64 0] (N 123) [.i .i64, .i .i64]) C Q v0) [(.int .i64 0)] h
def kit_flatOpens.Imp (C : CSem) (N : Nat → Nat) : Prop := ∀ (v0 : AVal) (h : AHeap) (Q : AVal → AHeap → Prop), kit_flatOpens.cps C N v0 h (dn Q) → C (N 99) [v0] h Q
/-- storeman/storemankit.flatRecords -/
def kit_flatRecords.cps (C : CSem) (N : Nat → Nat) (v0 : AVal) (h : AHeap) (Q : AVal → AHeap → Prop) : Prop :=
  LoopR (flatG.l103 (opsD C 11 168 [.int .i64 0, .int .i64 0, .int .i64 0, .int .i64 0, .int .u8 0, .int .i64 0, .nils, .nils, .nils, .nils, .nils] (N 124) (N 125)) C Q v0) [(.int .i64 0)] h
def kit_flatRecords.Imp (C : CSem) (N : Nat → Nat) : Prop := ∀ (v0 : AVal) (h : AHeap) (Q : AVal → AHeap → Prop), kit_flatRecords.cps C N v0 h (dn Q) → C (N 100) [v0] h Q
/-- storeman/storemankit.flatSteps -/
def kit_flatSteps.cps (C : CSem) (N : Nat → Nat) (v0 : AVal) (h : AHeap) (Q : AVal → AHeap → Prop) : Prop :=
  LoopR (flatG.l103 (opsD C 15 176 [.int .u8 0, .int .i64 0, .int .i64 0, .int .u8 0, .int .i64 0, .str [], .int .i64 0, .int .i64 0, .int .i64 0, .int .i64 0, .int .i64 0, .int .i64 0, .nils, .nils, .nils] (N 126) (N 127)) C Q v0) [(.int .i64 0)] h
def kit_flatSteps.Imp (C : CSem) (N : Nat → Nat) : Prop := ∀ (v0 : AVal) (h : AHeap) (Q : AVal → AHeap → Prop), kit_flatSteps.cps C N v0 h (dn Q) → C (N 101) [v0] h Q
/-- storeman/storemankit.flatTales -/
def kit_flatTales.cps (C : CSem) (N : Nat → Nat) (v0 : AVal) (h : AHeap) (Q : AVal → AHeap → Prop) : Prop :=
  LoopR (flatG.l103 (opsD C 21 248 [.int .u8 0, .int .i64 0, .int .i64 0, .int .u8 0, .int .i64 0, .str [], .int .i64 0, .int .i64 0, .int .i64 0, .int .i64 0, .int .i64 0, .int .i64 0, .nils, .nils, .int .i64 0, .int .i64 0, .int .i64 0, .str [], .int .u8 0, .nils, .nils] (N 128) (N 129)) C Q v0) [(.int .i64 0)] h
def kit_flatTales.Imp (C : CSem) (N : Nat → Nat) : Prop := ∀ (v0 : AVal) (h : AHeap) (Q : AVal → AHeap → Prop), kit_flatTales.cps C N v0 h (dn Q) → C (N 102) [v0] h Q
@[simp] def kit_markText.k1 (C : CSem) (N : Nat → Nat) (Q : AVal → AHeap → Prop) (v0 v1 : AVal) (h : AHeap) : Prop :=
  B.pv (V.toInt .u8 v0) fun v6 =>
    B.pv (V.bin .shr v0 (.int .u64 8)) fun v8 =>
    B.pv (V.toInt .u8 v8) fun v9 =>
    B.pv (V.bin .shr v0 (.int .u64 16)) fun v11 =>
    B.pv (V.toInt .u8 v11) fun v12 =>
    B.pv (V.toInt .u8 v1) fun v14 =>
    B.pv (V.bin .shr v1 (.int .u64 8)) fun v16 =>
    B.pv (V.toInt .u8 v16) fun v17 =>
    B.pv (V.bin .shr v1 (.int .u64 16)) fun v19 =>
    B.pv (V.toInt .u8 v19) fun v20 =>
    B.newO h (fillL [(0, none, (.int .u8 35)), (1, none, v6), (2, none, v9), (3, none, v12), (4, none, (.int .u8 47)), (5, none, v14), (6, none, v17), (7, none, v20)] (repL 8 [.int .u8 0])) fun i21 h =>
    B.bytesStr h (.sl i21 0 0 8 1 8) fun v22 =>
    Q v22 h
/-- storeman/storemankit.markText -/
@[simp] def kit_markText.cps (C : CSem) (N : Nat → Nat) (v0 v1 : AVal) (h : AHeap) (Q : AVal → AHeap → Prop) : Prop :=
  kit_markText.k1 C N Q v0 v1 h
def kit_markText.Imp (C : CSem) (N : Nat → Nat) : Prop := ∀ (v0 v1 : AVal) (h : AHeap) (Q : AVal → AHeap → Prop), kit_markText.cps C N v0 v1 h (dn Q) → C (N 106) [v0, v1] h Q
@[simp] def kit_markWant.k1 (C : CSem) (N : Nat → Nat) (Q : AVal → AHeap → Prop) (v0 v1 : AVal) (h : AHeap) : Prop :=
  B.call C (N 20) [v0, v1] h fun v7 h =>
    B.pv (A.bld [(1, none, v7)] [.str [], .int .i64 0, .int .i64 0]) fun v8 =>
    B.pv (V.setN 0 3 v8 (.agg [.str [], .int .i64 0, .int .i64 0])) fun c4 =>
    B.pv (oneOf (joinV (V.fieldN 0 3 c4) (some []))) fun v => Q v h
/-- storeman/storemankit.markWant -/
@[simp] def kit_markWant.cps (C : CSem) (N : Nat → Nat) (v0 v1 : AVal) (h : AHeap) (Q : AVal → AHeap → Prop) : Prop :=
  kit_markWant.k1 C N Q v0 v1 h
def kit_markWant.Imp (C : CSem) (N : Nat → Nat) : Prop := ∀ (v0 v1 : AVal) (h : AHeap) (Q : AVal → AHeap → Prop), kit_markWant.cps C N v0 v1 h (dn Q) → C (N 107) [v0, v1] h Q
@[simp] def kit_markPart.k1 (C : CSem) (N : Nat → Nat) (Q : AVal → AHeap → Prop) (v0 v1 : AVal) (h : AHeap) : Prop :=
  B.call C (N 20) [v0, v1] h fun v7 h =>
    B.pv (A.bld [(1, none, v7)] [.str [], .int .i64 0]) fun v8 =>
    B.pv (V.setN 0 2 v8 (.agg [.str [], .int .i64 0])) fun c4 =>
    B.pv (oneOf (joinV (V.fieldN 0 2 c4) (some []))) fun v => Q v h
/-- storeman/storemankit.markPart -/
@[simp] def kit_markPart.cps (C : CSem) (N : Nat → Nat) (v0 v1 : AVal) (h : AHeap) (Q : AVal → AHeap → Prop) : Prop :=
  kit_markPart.k1 C N Q v0 v1 h
def kit_markPart.Imp (C : CSem) (N : Nat → Nat) : Prop := ∀ (v0 v1 : AVal) (h : AHeap) (Q : AVal → AHeap → Prop), kit_markPart.cps C N v0 v1 h (dn Q) → C (N 108) [v0, v1] h Q
@[simp] def kit_markLine.k1 (C : CSem) (N : Nat → Nat) (Q : AVal → AHeap → Prop) (v0 v1 : AVal) (h : AHeap) : Prop :=
  B.call C (N 20) [v0, v1] h fun v7 h =>
    B.pv (A.bld [(0, none, v7)] [.int .i64 0, .str [], .int .i64 0, .int .i64 0, .int .i64 0, .int .u8 0, .int .i64 0, .str []]) fun v8 =>
    B.pv (V.setN 0 8 v8 (.agg [.int .i64 0, .str [], .int .i64 0, .int .i64 0, .int .i64 0, .int .u8 0, .int .i64 0, .str []])) fun c4 =>
    B.pv (oneOf (joinV (V.fieldN 0 8 c4) (some []))) fun v => Q v h
/-- storeman/storemankit.markLine -/
@[simp] def kit_markLine.cps (C : CSem) (N : Nat → Nat) (v0 v1 : AVal) (h : AHeap) (Q : AVal → AHeap → Prop) : Prop :=
  kit_markLine.k1 C N Q v0 v1 h
def kit_markLine.Imp (C : CSem) (N : Nat → Nat) : Prop := ∀ (v0 v1 : AVal) (h : AHeap) (Q : AVal → AHeap → Prop), kit_markLine.cps C N v0 v1 h (dn Q) → C (N 111) [v0, v1] h Q
@[simp] def kit_markTell.k1 (C : CSem) (N : Nat → Nat) (Q : AVal → AHeap → Prop) (v0 v1 : AVal) (h : AHeap) : Prop :=
  B.call C (N 20) [v0, v1] h fun v7 h =>
    B.pv (A.bld [(1, none, v7)] [.int .i64 0, .int .i64 0, .int .i64 0, .str [], .int .u8 0, .nils, .nils]) fun v8 =>
    B.pv (V.setN 0 7 v8 (.agg [.int .i64 0, .int .i64 0, .int .i64 0, .str [], .int .u8 0, .nils, .nils])) fun c4 =>
    B.pv (oneOf (joinV (V.fieldN 0 7 c4) (some []))) fun v => Q v h
/-- storeman/storemankit.markTell -/
@[simp] def kit_markTell.cps (C : CSem) (N : Nat → Nat) (v0 v1 : AVal) (h : AHeap) (Q : AVal → AHeap → Prop) : Prop :=
  kit_markTell.k1 C N Q v0 v1 h
def kit_markTell.Imp (C : CSem) (N : Nat → Nat) : Prop := ∀ (v0 v1 : AVal) (h : AHeap) (Q : AVal → AHeap → Prop), kit_markTell.cps C N v0 v1 h (dn Q) → C (N 114) [v0, v1] h Q
@[simp] def kit_SameLines.k3 (C : CSem) (N : Nat → Nat) (Q : AVal → AHeap → Prop) (v0 v1 : AVal) (h : AHeap) : Prop :=
  B.pv (V.lenSl v0) fun v7 =>
    B.pv (V.lenSl v1) fun v9 =>
    B.pv (V.bin .neq v7 v9) fun v10 =>
    B.cond v10
    (Q (.bool false) h)
    (LoopR (sameG.l4 8 [.i .i64, .s, .i .i64, .i .i64, .i .i64, .i .u8, .i .i64, .s] Q v0 v1) [(.int .i64 0)] h)
/-- storeman/storemankit.SameLines -/
def kit_SameLines.cps (C : CSem) (N : Nat → Nat) (v0 v1 : AVal) (h : AHeap) (Q : AVal → AHeap → Prop) : Prop :=
  kit_SameLines.k3 C N Q v0 v1 h
def kit_SameLines.Imp (C : CSem) (N : Nat → Nat) : Prop := ∀ (v0 v1 : AVal) (h : AHeap) (Q : AVal → AHeap → Prop), kit_SameLines.cps C N v0 v1 h (dn Q) → C (N 135) [v0, v1] h Q
@[simp] def kit_Pick.k1 (C : CSem) (N : Nat → Nat) (Q : AVal → AHeap → Prop) (v0 v1 : AVal) (h : AHeap) : Prop :=
  B.pv (V.bin .lss v1 (.int .i64 1)) fun v6 =>
    B.cond v6
    (Q (.int .i64 0) h)
    (B.pv (V.bin .rem v0 v1) fun v9 =>
    B.pv (V.bin .lss v9 (.int .i64 0)) fun v11 =>
    B.cond v11
    (B.pv (V.bin .add v9 v1) fun v14 =>
    Q v14 h)
    (Q v9 h))
/-- storeman/storemankit.Pick -/
@[simp] def kit_Pick.cps (C : CSem) (N : Nat → Nat) (v0 v1 : AVal) (h : AHeap) (Q : AVal → AHeap → Prop) : Prop :=
  kit_Pick.k1 C N Q v0 v1 h
def kit_Pick.Imp (C : CSem) (N : Nat → Nat) : Prop := ∀ (v0 v1 : AVal) (h : AHeap) (Q : AVal → AHeap → Prop), kit_Pick.cps C N v0 v1 h (dn Q) → C (N 155) [v0, v1] h Q
@[simp] def kit_LentLines.k3 (C : CSem) (N : Nat → Nat) (Q : AVal → AHeap → Prop) (v0 : AVal) (h : AHeap) : Prop :=
  B.pv (V.lenSl v0) fun v6 =>
    B.pv (V.bin .add v6 (.int .i64 12)) fun v7 =>
    0 < 8 ∧ B.mks h 80 (some [.int .i64 0, .str [], .int .i64 0, .int .i64 0, .int .i64 0, .int .u8 0, .int .i64 0, .str []]) (.int .i64 0) v7 fun v8 h =>
    B.appW h 8 80 v8 v0 fun v11 h =>
    LoopR (lentG.l4 C 8 80 (N 111) [.int .i64 0, .str [], .int .i64 0, .int .i64 0, .int .i64 0, .int .u8 0, .int .i64 0, .str []] 1 Q v0) [v11, (.int .i64 0)] h
/-- storeman/storemankit.LentLines -/
def kit_LentLines.cps (C : CSem) (N : Nat → Nat) (v0 : AVal) (h : AHeap) (Q : AVal → AHeap → Prop) : Prop :=
  kit_LentLines.k3 C N Q v0 h
def kit_LentLines.Imp (C : CSem) (N : Nat → Nat) : Prop := ∀ (v0 : AVal) (h : AHeap) (Q : AVal → AHeap → Prop), kit_LentLines.cps C N v0 h (dn Q) → C (N 186) [v0] h Q
@[simp] def kit_KeptLines.k3 (C : CSem) (N : Nat → Nat) (Q : AVal → AHeap → Prop) (v0 v1 : AVal) (h : AHeap) : Prop :=
  B.pv (V.lenSl v1) fun v14 =>
    B.pv (V.bin .add v14 (.int .i64 12)) fun v15 =>
    B.pv (V.cutSl 8 v0 none (some v15)) fun v16 =>
    LoopR (keptG.l4 C 8 (N 111) [.i .i64, .s, .i .i64, .i .i64, .i .i64, .i .u8, .i .i64, .s] 1 Q v1 v16) [(.int .i64 0)] h
@[simp] def kit_KeptLines.k4 (C : CSem) (N : Nat → Nat) (Q : AVal → AHeap → Prop) (v0 v1 : AVal) (h : AHeap) : Prop :=
  B.pv (V.lenSl v0) fun v8 =>
    B.pv (V.lenSl v1) fun v10 =>
    B.pv (V.bin .neq v8 v10) fun v11 =>
    B.cond v11
    (Q (.bool false) h)
    (kit_KeptLines.k3 C N Q v0 v1 h)
/-- storeman/storemankit.KeptLines -/
def kit_KeptLines.cps (C : CSem) (N : Nat → Nat) (v0 v1 : AVal) (h : AHeap) (Q : AVal → AHeap → Prop) : Prop :=
  kit_KeptLines.k4 C N Q v0 v1 h
def kit_KeptLines.Imp (C : CSem) (N : Nat → Nat) : Prop := ∀ (v0 v1 : AVal) (h : AHeap) (Q : AVal → AHeap → Prop), kit_KeptLines.cps C N v0 v1 h (dn Q) → C (N 189) [v0, v1] h Q
@[simp] def kit_OverLines.k3 (C : CSem) (N : Nat → Nat) (Q : AVal → AHeap → Prop) (v0 : AVal) (h : AHeap) : Prop :=
  B.pv (V.lenSl v0) fun v6 =>
    B.pv (V.bin .add v6 (.int .i64 12)) fun v7 =>
    B.pv (V.cutSl 8 v0 none (some v7)) fun v8 =>
    LoopR (overG.l3 C 8 (N 111) (fun h p v K => B.stn h p 8 v K) 2 Q v8) [(.int .i64 0)] h
/-- storeman/storemankit.OverLines -/
def kit_OverLines.cps (C : CSem) (N : Nat → Nat) (v0 : AVal) (h : AHeap) (Q : AVal → AHeap → Prop) : Prop :=
  kit_OverLines.k3 C N Q v0 h
def kit_OverLines.Imp (C : CSem) (N : Nat → Nat) : Prop := ∀ (v0 : AVal) (h : AHeap) (Q : AVal → AHeap → Prop), kit_OverLines.cps C N v0 h (dn Q) → C (N 190) [v0] h Q
@[simp] def kit_ApartLines.k1 (C : CSem) (N : Nat → Nat) (Q : AVal → AHeap → Prop) (Y1 : List AVal → AHeap → Prop) (v0 v3 v4 : AVal) (h : AHeap) : Prop :=
  B.pv (V.lenSl v0) fun v9 =>
    B.pv (V.bin .lss v4 v9) fun v10 =>
    B.cond v10
    (B.pv (V.idxS 1 v0 v4) fun v16 =>
    B.ld h v16 fun v17 =>
    B.call C (N 207) [v3, v17] h fun v18 h =>
    B.pv (V.bin .add v4 (.int .i64 1)) fun v12 =>
    Y1 [v12] h)
    (B.call C (N 62) [v3] h fun v20 h =>
    Q v20 h)
@[simp] def kit_ApartLines.l2 (C : CSem) (N : Nat → Nat) (Q : AVal → AHeap → Prop) (v0 v3 : AVal) : List AVal → AHeap → (List AVal → AHeap → Prop) → Prop
  | [v4], h, Y1 => kit_ApartLines.k1 C N Q Y1 v0 v3 v4 h
  | _, _, _ => False
@[simp] def kit_ApartLines.k3 (C : CSem) (N : Nat → Nat) (Q : AVal → AHeap → Prop) (v0 : AVal) (h : AHeap) : Prop :=
  B.pv (A.bld [] [.nils, .nils, .nils, .nils, .nils, .nils, .nils, .nils, .nils, .nils, .nils, .nils, .nils, .nils, .nils, .nils, .nils, .nils, .nils, .nils, .nils, .nils, .nils]) fun v5 =>
    B.newO h (A.cellsN 23 v5) fun i6 h =>
    LoopR (kit_ApartLines.l2 C N Q v0 (.ptr i6 0 0)) [(.int .i64 0)] h
/-- storeman/storemankit.ApartLines -/
@[simp] def kit_ApartLines.cps (C : CSem) (N : Nat → Nat) (v0 : AVal) (h : AHeap) (Q : AVal → AHeap → Prop) : Prop :=
  kit_ApartLines.k3 C N Q v0 h
def kit_ApartLines.Imp (C : CSem) (N : Nat → Nat) : Prop := ∀ (v0 : AVal) (h : AHeap) (Q : AVal → AHeap → Prop), kit_ApartLines.cps C N v0 h (dn Q) → C (N 193) [v0] h Q
@[simp] def kit_bag_putLines.k1 (C : CSem) (N : Nat → Nat) (Q : AVal → AHeap → Prop) (v0 v1 : AVal) (h : AHeap) : Prop :=
  B.nilCheck v0 fun v6 =>
    B.pv (V.fieldAddr 11 v6) fun v7 =>
    B.ld h v7 fun v8 =>
    B.newO h (fillL [(0, none, v1)] (repL 1 [.nils])) fun i10 h =>
    B.appW h 1 24 v8 (.sl i10 0 0 1 1 1) fun v11 h =>
    B.nilCheck v0 fun v12 =>
    B.pv (V.fieldAddr 11 v12) fun v13 =>
    B.st h v13 v11 fun h =>
    Q (.tup []) h
/-- (ptr storeman/storemankit.bag).putLines -/
@[simp] def kit_bag_putLines.cps (C : CSem) (N : Nat → Nat) (v0 v1 : AVal) (h : AHeap) (Q : AVal → AHeap → Prop) : Prop :=
  kit_bag_putLines.k1 C N Q v0 v1 h
def kit_bag_putLines.Imp (C : CSem) (N : Nat → Nat) : Prop := ∀ (v0 v1 : AVal) (h : AHeap) (Q : AVal → AHeap → Prop), kit_bag_putLines.cps C N v0 v1 h (dn Q) → C (N 207) [v0, v1] h Q
end Go.Ab

/- What is told: residuals: what each function does in the abstract memory, printed by a program of mine. Definitions alone. -/
set_option linter.unusedVariables false
namespace Go.Ab
@[simp] def law09_awake.k1 (C : CSem) (N : Nat → Nat) (Q : AVal → AHeap → Prop) (h : AHeap) : Prop :=
  B.call C (N 195) [] h fun v3 h =>
    B.call C (N 187) [v3] h fun v4 h =>
    B.call C (N 195) [] h fun v5 h =>
    B.call C (N 188) [v5, (.int .i64 4)] h fun v6 h =>
    B.pv (V.lenSl v4) fun v8 =>
    B.pv (V.bin .eql v8 (.int .i64 3)) fun v9 =>
    B.gd h v9 true (fun K => K v4 h) fun v11 h =>
    B.gd h v9 true (fun K => B.pv (V.idxS 8 v11 (.int .i64 0)) fun v => K v h) fun v12 h =>
    B.gd h v9 true (fun K => B.pv (V.fieldAddr 0 v12) fun v => K v h) fun v13 h =>
    B.gd h v9 true (fun K => B.ld h v13 fun v => K v h) fun v14 h =>
    B.gd h v9 true (fun K => B.pv (V.bin .eql v14 (.int .i64 3)) fun v => K v h) fun v15 h =>
    B.pick v9 v15 (.bool false) fun v16 =>
    B.gd h v16 true (fun K => K v4 h) fun v18 h =>
    B.gd h v16 true (fun K => B.pv (V.idxS 8 v18 (.int .i64 1)) fun v => K v h) fun v19 h =>
    B.gd h v16 true (fun K => B.pv (V.fieldAddr 0 v19) fun v => K v h) fun v20 h =>
    B.gd h v16 true (fun K => B.ld h v20 fun v => K v h) fun v21 h =>
    B.gd h v16 true (fun K => B.pv (V.bin .eql v21 (.int .i64 1)) fun v => K v h) fun v22 h =>
    B.pick v16 v22 (.bool false) fun v23 =>
    B.gd h v23 true (fun K => K v4 h) fun v25 h =>
    B.gd h v23 true (fun K => B.pv (V.idxS 8 v25 (.int .i64 2)) fun v => K v h) fun v26 h =>
    B.gd h v23 true (fun K => B.pv (V.fieldAddr 0 v26) fun v => K v h) fun v27 h =>
    B.gd h v23 true (fun K => B.ld h v27 fun v => K v h) fun v28 h =>
    B.gd h v23 true (fun K => B.pv (V.bin .eql v28 (.int .i64 4)) fun v => K v h) fun v29 h =>
    B.pick v23 v29 (.bool false) fun v30 =>
    B.gd h v30 true (fun K => K v6 h) fun v32 h =>
    B.gd h v30 true (fun K => B.pv (V.lenSl v32) fun v => K v h) fun v33 h =>
    B.gd h v30 true (fun K => B.pv (V.bin .eql v33 (.int .i64 2)) fun v => K v h) fun v34 h =>
    B.pick v30 v34 (.bool false) fun v35 =>
    B.gd h v35 true (fun K => B.call C (N 195) [] h K) fun v37 h =>
    B.gd h v35 true (fun K => B.call C (N 188) [v37, (.int .i64 2)] h K) fun v38 h =>
    B.gd h v35 true (fun K => B.pv (V.lenSl v38) fun v => K v h) fun v39 h =>
    B.gd h v35 true (fun K => B.pv (V.bin .eql v39 (.int .i64 0)) fun v => K v h) fun v40 h =>
    B.pick v35 v40 (.bool false) fun v41 =>
    B.gd h v41 true (fun K => B.call C (N 195) [] h K) fun v43 h =>
    B.gd h v41 true (fun K => B.pv (V.idxS 8 v43 (.int .i64 0)) fun v => K v h) fun v44 h =>
    B.gd h v41 true (fun K => B.ldn h v44 8 fun v => K v h) fun v45 h =>
    B.gd h v41 true (fun K => B.call C (N 179) [v45] h K) fun v46 h =>
    B.pick v41 v46 (.bool false) fun v47 =>
    B.gd h v47 true (fun K => B.pv (A.bld [] [.int .i64 0, .str [], .int .i64 0, .int .i64 0, .int .i64 0, .int .u8 0, .int .i64 0, .str []]) fun v => K v h) fun v49 h =>
    B.gd h v47 true (fun K => B.call C (N 179) [v49] h K) fun v50 h =>
    B.gd h v47 true (fun K => B.pv (V.un .not v50) fun v => K v h) fun v51 h =>
    B.pick v47 v51 (.bool false) fun v52 =>
    Q v52 h
/-- storeman/storemanlaw09.awake -/
@[simp] def law09_awake.cps (C : CSem) (N : Nat → Nat) (h : AHeap) (Q : AVal → AHeap → Prop) : Prop :=
  law09_awake.k1 C N Q h
def law09_awake.Imp (C : CSem) (N : Nat → Nat) : Prop := ∀ (h : AHeap) (Q : AVal → AHeap → Prop), law09_awake.cps C N h (dn Q) → C (N 183) [] h Q
@[simp] def law09_RankRights.k1 (C : CSem) (N : Nat → Nat) (Q : AVal → AHeap → Prop) (v0 v1 : AVal) (h : AHeap) : Prop :=
  B.pv (A.boxN 8 v0) fun c2 =>
    B.pv (A.boxN 8 v1) fun c3 =>
    B.pv (V.fieldN 0 8 c2) fun v5 =>
    B.pv (V.fieldN 0 8 c2) fun v7 =>
    B.al c2 (B.call C (N 179) [v5] h fun v6 h =>
    B.call C (N 180) [v7] h fun v8 h =>
    B.pv (V.eqBool .eql v6 v8) fun v9 =>
    B.gd h v9 true (fun K => B.pv (V.fieldN 0 8 c2) fun v => K v h) fun v11 h =>
    B.gd h v9 true (fun K => B.pv (V.fieldN 0 8 c3) fun v => K v h) fun v12 h =>
    B.gd h v9 true (fun K => B.pv (V.fieldN 0 8 c2) fun v => K v h) fun v14 h =>
    B.gd h v9 true (fun K => B.pv (V.fieldN 0 8 c3) fun v => K v h) fun v15 h =>
    B.al c2 (B.al c3 (B.gd h v9 true (fun K => B.call C (N 181) [v11, v12] h K) fun v13 h =>
    B.gd h v9 true (fun K => B.call C (N 182) [v14, v15] h K) fun v16 h =>
    B.gd h v9 true (fun K => B.pv (V.bin .eql v13 v16) fun v => K v h) fun v17 h =>
    B.pick v9 v17 (.bool false) fun v18 =>
    B.gd h v18 true (fun K => B.call C (N 183) [] h K) fun v20 h =>
    B.pick v18 v20 (.bool false) fun v21 =>
    Q v21 h)))
/-- storeman/storemanlaw09.RankRights -/
@[simp] def law09_RankRights.cps (C : CSem) (N : Nat → Nat) (v0 v1 : AVal) (h : AHeap) (Q : AVal → AHeap → Prop) : Prop :=
  law09_RankRights.k1 C N Q v0 v1 h
def law09_RankRights.Imp (C : CSem) (N : Nat → Nat) : Prop := ∀ (v0 v1 : AVal) (h : AHeap) (Q : AVal → AHeap → Prop), law09_RankRights.cps C N v0 v1 h (dn Q) → C (N 184) [v0, v1] h Q
@[simp] def law09_great.k1 (C : CSem) (N : Nat → Nat) (Q : AVal → AHeap → Prop) (Y1 : List AVal → AHeap → Prop) (v0 v3 v4 : AVal) (h : AHeap) : Prop :=
  B.pv (V.lenSl v0) fun v9 =>
    B.pv (V.bin .lss v4 v9) fun v10 =>
    B.gd h v10 true (fun K => K v3 h) fun v12 h =>
    B.gd h v10 true (fun K => B.pv (V.bin .leq v12 (.int .i64 400)) fun v => K v h) fun v13 h =>
    B.pick v10 v13 (.bool false) fun v14 =>
    B.cond v14
    (B.pv (V.idxS 8 v0 v4) fun v20 =>
    B.pv (V.fieldAddr 1 v20) fun v21 =>
    B.ld h v21 fun v22 =>
    B.pv (V.lenStr v22) fun v23 =>
    B.pv (V.bin .quo v23 (.int .i64 50)) fun v24 =>
    B.pv (V.bin .add v3 v24) fun v25 =>
    B.pv (V.idxS 8 v0 v4) fun v28 =>
    B.pv (V.fieldAddr 7 v28) fun v29 =>
    B.ld h v29 fun v30 =>
    B.pv (V.lenStr v30) fun v31 =>
    B.pv (V.bin .quo v31 (.int .i64 50)) fun v32 =>
    B.pv (V.bin .add v25 v32) fun v33 =>
    B.pv (V.bin .add v4 (.int .i64 1)) fun v16 =>
    Y1 [v33, v16] h)
    (B.pv (V.bin .gtr v3 (.int .i64 400)) fun v35 =>
    Q v35 h)
@[simp] def law09_great.l2 (C : CSem) (N : Nat → Nat) (Q : AVal → AHeap → Prop) (v0 : AVal) : List AVal → AHeap → (List AVal → AHeap → Prop) → Prop
  | [v3, v4], h, Y1 => law09_great.k1 C N Q Y1 v0 v3 v4 h
  | _, _, _ => False
/-- storeman/storemanlaw09.great -/
@[simp] def law09_great.cps (C : CSem) (N : Nat → Nat) (v0 : AVal) (h : AHeap) (Q : AVal → AHeap → Prop) : Prop :=
  B.pv (V.lenSl v0) fun v6 =>
    LoopR (law09_great.l2 C N Q v0) [v6, (.int .i64 0)] h
def law09_great.Imp (C : CSem) (N : Nat → Nat) : Prop := ∀ (v0 : AVal) (h : AHeap) (Q : AVal → AHeap → Prop), law09_great.cps C N v0 h (dn Q) → C (N 185) [v0] h Q
@[simp] def law09_RankLists.k1 (C : CSem) (N : Nat → Nat) (Q : AVal → AHeap → Prop) (v0 v1 : AVal) (h : AHeap) : Prop :=
  B.call C (N 185) [v0] h fun v9 h =>
    B.cond v9
    (B.call C (N 183) [] h fun v10 h =>
    Q v10 h)
    (B.call C (N 186) [v0] h fun v12 h =>
    B.call C (N 187) [v12] h fun v14 h =>
    B.call C (N 188) [v12, v1] h fun v17 h =>
    B.call C (N 189) [v12, v0] h fun v20 h =>
    B.pv (V.un .not v20) fun v21 =>
    B.cond v21
    (Q (.bool false) h)
    (B.call C (N 190) [v12] h fun v23 h =>
    B.call C (N 191) [v0] h fun v26 h =>
    B.call C (N 135) [v14, v26] h fun v27 h =>
    B.gd h v27 true (fun K => K v17 h) fun v29 h =>
    B.gd h v27 true (fun K => K v0 h) fun v30 h =>
    B.gd h v27 true (fun K => K v1 h) fun v31 h =>
    B.gd h v27 true (fun K => B.call C (N 192) [v30, v31] h K) fun v32 h =>
    B.gd h v27 true (fun K => B.call C (N 135) [v29, v32] h K) fun v33 h =>
    B.pick v27 v33 (.bool false) fun v34 =>
    B.gd h v34 true (fun K => K v14 h) fun v36 h =>
    B.gd h v34 true (fun K => K v17 h) fun v37 h =>
    B.gd h v34 true (fun K => B.newO h (fillL [(0, none, v36), (1, none, v37)] (repL 2 [.nils])) fun i h => K (.sl i 0 0 2 1 2) h) fun v38 h =>
    B.gd h v34 true (fun K => B.call C (N 193) [v38] h K) fun v39 h =>
    B.pick v34 v39 (.bool false) fun v40 =>
    B.gd h v40 true (fun K => B.call C (N 183) [] h K) fun v42 h =>
    B.pick v40 v42 (.bool false) fun v43 =>
    Q v43 h))
/-- storeman/storemanlaw09.RankLists -/
@[simp] def law09_RankLists.cps (C : CSem) (N : Nat → Nat) (v0 v1 : AVal) (h : AHeap) (Q : AVal → AHeap → Prop) : Prop :=
  law09_RankLists.k1 C N Q v0 v1 h
def law09_RankLists.Imp (C : CSem) (N : Nat → Nat) : Prop := ∀ (v0 v1 : AVal) (h : AHeap) (Q : AVal → AHeap → Prop), law09_RankLists.cps C N v0 v1 h (dn Q) → C (N 194) [v0, v1] h Q
@[simp] def law09_four.k1 (C : CSem) (N : Nat → Nat) (Q : AVal → AHeap → Prop) (h : AHeap) : Prop :=
  B.call C (N 196) [(.int .i64 1), (.int .i64 5), (.int .u8 1)] h fun v1 h =>
    B.call C (N 196) [(.int .i64 2), (.int .i64 3), (.int .u8 3)] h fun v2 h =>
    B.call C (N 196) [(.int .i64 3), (.int .i64 3), (.int .u8 1)] h fun v3 h =>
    B.call C (N 196) [(.int .i64 4), (.int .i64 5), (.int .u8 1)] h fun v4 h =>
    B.newO h (fillL [(0, some 8, v1), (8, some 8, v2), (16, some 8, v3), (24, some 8, v4)] (repL 4 [.int .i64 0, .str [], .int .i64 0, .int .i64 0, .int .i64 0, .int .u8 0, .int .i64 0, .str []])) fun i5 h =>
    Q (.sl i5 0 0 4 8 4) h
/-- storeman/storemanlaw09.four -/
@[simp] def law09_four.cps (C : CSem) (N : Nat → Nat) (h : AHeap) (Q : AVal → AHeap → Prop) : Prop :=
  law09_four.k1 C N Q h
def law09_four.Imp (C : CSem) (N : Nat → Nat) : Prop := ∀ (h : AHeap) (Q : AVal → AHeap → Prop), law09_four.cps C N h (dn Q) → C (N 195) [] h Q
@[simp] def law09_line.k1 (C : CSem) (N : Nat → Nat) (Q : AVal → AHeap → Prop) (v0 v1 v2 : AVal) (h : AHeap) : Prop :=
  B.pv (A.bld [(0, none, v0), (1, none, (.str [65])), (2, none, (.int .i64 1)), (4, none, v1), (5, none, v2), (6, none, (.int .i64 (-1)))] [.int .i64 0, .str [], .int .i64 0, .int .i64 0, .int .i64 0, .int .u8 0, .int .i64 0, .str []]) fun v10 =>
    B.pv (V.setN 0 8 v10 (.agg [.int .i64 0, .str [], .int .i64 0, .int .i64 0, .int .i64 0, .int .u8 0, .int .i64 0, .str []])) fun c6 =>
    B.pv (oneOf (joinV (V.fieldN 0 8 c6) (some []))) fun v => Q v h
/-- storeman/storemanlaw09.line -/
@[simp] def law09_line.cps (C : CSem) (N : Nat → Nat) (v0 v1 v2 : AVal) (h : AHeap) (Q : AVal → AHeap → Prop) : Prop :=
  law09_line.k1 C N Q v0 v1 v2 h
def law09_line.Imp (C : CSem) (N : Nat → Nat) : Prop := ∀ (v0 v1 v2 : AVal) (h : AHeap) (Q : AVal → AHeap → Prop), law09_line.cps C N v0 v1 v2 h (dn Q) → C (N 196) [v0, v1, v2] h Q
@[simp] def law09_RankNumbers.k1 (C : CSem) (N : Nat → Nat) (Q : AVal → AHeap → Prop) (h : AHeap) : Prop :=
  B.call C (N 195) [] h fun v116 h =>
    B.call C (N 195) [] h fun v117 h =>
    B.appW h 8 80 v116 v117 fun v118 h =>
    B.call C (N 194) [v118, (.int .i64 1)] h fun v119 h =>
    B.gd h v119 true (fun K => B.call C (N 183) [] h K) fun v121 h =>
    B.pick v119 v121 (.bool false) fun v122 =>
    Q v122 h
@[simp] def law09_RankNumbers.k2 (C : CSem) (N : Nat → Nat) (Q : AVal → AHeap → Prop) (Y1 : List AVal → AHeap → Prop) (v1 v4 v11 : AVal) (h : AHeap) : Prop :=
  B.pv (V.lenSl v1) fun v105 =>
    B.pv (V.bin .lss v11 v105) fun v106 =>
    B.cond v106
    (B.pv (V.idxS 1 v1 v11) fun v112 =>
    B.ld h v112 fun v113 =>
    B.call C (N 194) [v4, v113] h fun v114 h =>
    B.pv (V.un .not v114) fun v115 =>
    B.cond v115
    (Q (.bool false) h)
    (B.pv (V.bin .add v11 (.int .i64 1)) fun v108 =>
    Y1 [v108] h))
    (law09_RankNumbers.k1 C N Q h)
@[simp] def law09_RankNumbers.l3 (C : CSem) (N : Nat → Nat) (Q : AVal → AHeap → Prop) (v1 v4 : AVal) : List AVal → AHeap → (List AVal → AHeap → Prop) → Prop
  | [v11], h, Y1 => law09_RankNumbers.k2 C N Q Y1 v1 v4 v11 h
  | _, _, _ => False
@[simp] def law09_RankNumbers.k4 (C : CSem) (N : Nat → Nat) (Q : AVal → AHeap → Prop) (Y2 : List AVal → AHeap → Prop) (Y3 : List AVal → AHeap → Prop) (Y4 : List AVal → AHeap → Prop) (v1 v2 v3 v4 v5 v6 v7 : AVal) (h : AHeap) : Prop :=
  B.pv (V.bin .lss v7 (.int .i64 4)) fun v26 =>
    B.cond v26
    (B.pv (V.toInt .u8 v6) fun v30 =>
    B.pv (V.idxS 1 v1 v5) fun v33 =>
    B.ld h v33 fun v34 =>
    B.pv (V.idxS 1 v3 v7) fun v37 =>
    B.ld h v37 fun v38 =>
    B.pv (A.bld [(0, none, (.int .i64 1)), (1, none, (.str [65])), (2, none, (.int .i64 1)), (5, none, v30), (6, none, v34), (7, none, v38)] [.int .i64 0, .str [], .int .i64 0, .int .i64 0, .int .i64 0, .int .u8 0, .int .i64 0, .str []]) fun v39 =>
    B.pv (V.setN 0 8 v39 (.agg [.int .i64 0, .str [], .int .i64 0, .int .i64 0, .int .i64 0, .int .u8 0, .int .i64 0, .str []])) fun c8 =>
    B.pv (V.idxS 1 v1 v5) fun v42 =>
    B.ld h v42 fun v43 =>
    B.pv (V.bin .add v5 v7) fun v47 =>
    B.pv (V.bin .rem v47 (.int .i64 13)) fun v48 =>
    B.pv (V.idxS 1 v1 v48) fun v49 =>
    B.ld h v49 fun v50 =>
    B.pv (V.toInt .u8 v6) fun v52 =>
    B.call C (N 196) [v43, v50, v52] h fun v53 h =>
    B.pv (V.setN 0 8 v53 (.agg [.int .i64 0, .str [], .int .i64 0, .int .i64 0, .int .i64 0, .int .u8 0, .int .i64 0, .str []])) fun c9 =>
    B.pv (V.idxS 1 v3 v7) fun v56 =>
    B.ld h v56 fun v57 =>
    B.pv (V.bin .rem v5 (.int .i64 5)) fun v60 =>
    B.pv (V.idxS 1 v2 v60) fun v61 =>
    B.ld h v61 fun v62 =>
    B.pv (V.idxS 1 v1 v5) fun v65 =>
    B.ld h v65 fun v66 =>
    B.pv (A.bld [(0, none, (.int .i64 2)), (1, none, v57), (2, none, v62), (3, none, v66), (4, none, (.int .i64 99)), (5, none, (.int .u8 1)), (6, none, (.int .i64 (-1)))] [.int .i64 0, .str [], .int .i64 0, .int .i64 0, .int .i64 0, .int .u8 0, .int .i64 0, .str []]) fun v67 =>
    B.pv (V.setN 0 8 v67 (.agg [.int .i64 0, .str [], .int .i64 0, .int .i64 0, .int .i64 0, .int .u8 0, .int .i64 0, .str []])) fun c10 =>
    B.pv (V.fieldN 0 8 c9) fun v69 =>
    B.newO h (fillL [(0, some 8, v69)] (repL 1 [.int .i64 0, .str [], .int .i64 0, .int .i64 0, .int .i64 0, .int .u8 0, .int .i64 0, .str []])) fun i70 h =>
    B.appW h 8 80 v4 (.sl i70 0 0 1 8 1) fun v71 h =>
    B.pv (V.fieldN 0 8 c8) fun v72 =>
    B.pv (V.fieldN 0 8 c9) fun v73 =>
    B.call C (N 184) [v72, v73] h fun v74 h =>
    B.pv (V.un .not v74) fun v75 =>
    B.gd h v75 false (fun K => B.pv (V.fieldN 0 8 c9) fun v => K v h) fun v77 h =>
    B.gd h v75 false (fun K => B.pv (V.fieldN 0 8 c10) fun v => K v h) fun v78 h =>
    B.gd h v75 false (fun K => B.call C (N 184) [v77, v78] h K) fun v79 h =>
    B.gd h v75 false (fun K => B.pv (V.un .not v79) fun v => K v h) fun v80 h =>
    B.pick v75 (.bool true) v80 fun v81 =>
    B.gd h v81 false (fun K => B.pv (V.fieldN 0 8 c10) fun v => K v h) fun v83 h =>
    B.gd h v81 false (fun K => B.pv (V.fieldN 0 8 c8) fun v => K v h) fun v84 h =>
    B.gd h v81 false (fun K => B.call C (N 184) [v83, v84] h K) fun v85 h =>
    B.gd h v81 false (fun K => B.pv (V.un .not v85) fun v => K v h) fun v86 h =>
    B.pick v81 (.bool true) v86 fun v87 =>
    B.gd h v87 false (fun K => K v2 h) fun v89 h =>
    B.gd h v87 false (fun K => K v5 h) fun v90 h =>
    B.gd h v87 false (fun K => B.pv (V.bin .rem v90 (.int .i64 5)) fun v => K v h) fun v91 h =>
    B.gd h v87 false (fun K => B.pv (V.idxS 1 v89 v91) fun v => K v h) fun v92 h =>
    B.gd h v87 false (fun K => B.ld h v92 fun v => K v h) fun v93 h =>
    B.gd h v87 false (fun K => K v1 h) fun v94 h =>
    B.gd h v87 false (fun K => K v5 h) fun v95 h =>
    B.gd h v87 false (fun K => B.pv (V.idxS 1 v94 v95) fun v => K v h) fun v96 h =>
    B.gd h v87 false (fun K => B.ld h v96 fun v => K v h) fun v97 h =>
    B.gd h v87 false (fun K => B.pv (A.bld [(0, none, (.int .i64 2)), (1, none, (.str [65])), (2, none, v93), (4, none, v97), (5, none, (.int .u8 1)), (6, none, (.int .i64 (-1)))] [.int .i64 0, .str [], .int .i64 0, .int .i64 0, .int .i64 0, .int .u8 0, .int .i64 0, .str []]) fun v => K v h) fun v98 h =>
    B.gd h v87 false (fun K => B.pv (V.fieldN 0 8 c10) fun v => K v h) fun v99 h =>
    B.gd h v87 false (fun K => B.call C (N 184) [v98, v99] h K) fun v100 h =>
    B.gd h v87 false (fun K => B.pv (V.un .not v100) fun v => K v h) fun v101 h =>
    B.pick v87 (.bool true) v101 fun v102 =>
    B.cond v102
    (Q (.bool false) h)
    (B.pv (V.bin .add v7 (.int .i64 1)) fun v28 =>
    Y4 [v71, v28] h))
    (B.pv (V.bin .add v6 (.int .i64 1)) fun v24 =>
    Y3 [v4, v24] h)
@[simp] def law09_RankNumbers.l5 (C : CSem) (N : Nat → Nat) (Q : AVal → AHeap → Prop) (Y2 : List AVal → AHeap → Prop) (Y3 : List AVal → AHeap → Prop) (v1 v2 v3 v5 v6 : AVal) : List AVal → AHeap → (List AVal → AHeap → Prop) → Prop
  | [v4, v7], h, Y4 => law09_RankNumbers.k4 C N Q Y2 Y3 Y4 v1 v2 v3 v4 v5 v6 v7 h
  | _, _, _ => False
@[simp] def law09_RankNumbers.k6 (C : CSem) (N : Nat → Nat) (Q : AVal → AHeap → Prop) (Y2 : List AVal → AHeap → Prop) (Y3 : List AVal → AHeap → Prop) (v1 v2 v3 v4 v5 v6 : AVal) (h : AHeap) : Prop :=
  B.pv (V.bin .lss v6 (.int .i64 5)) fun v22 =>
    B.cond v22
    (LoopR (law09_RankNumbers.l5 C N Q Y2 Y3 v1 v2 v3 v5 v6) [v4, (.int .i64 0)] h)
    (B.pv (V.bin .add v5 (.int .i64 1)) fun v20 =>
    Y2 [v4, v20] h)
@[simp] def law09_RankNumbers.l7 (C : CSem) (N : Nat → Nat) (Q : AVal → AHeap → Prop) (Y2 : List AVal → AHeap → Prop) (v1 v2 v3 v5 : AVal) : List AVal → AHeap → (List AVal → AHeap → Prop) → Prop
  | [v4, v6], h, Y3 => law09_RankNumbers.k6 C N Q Y2 Y3 v1 v2 v3 v4 v5 v6 h
  | _, _, _ => False
@[simp] def law09_RankNumbers.k8 (C : CSem) (N : Nat → Nat) (Q : AVal → AHeap → Prop) (Y2 : List AVal → AHeap → Prop) (v1 v2 v3 v4 v5 : AVal) (h : AHeap) : Prop :=
  B.pv (V.lenSl v1) fun v17 =>
    B.pv (V.bin .lss v5 v17) fun v18 =>
    B.cond v18
    (LoopR (law09_RankNumbers.l7 C N Q Y2 v1 v2 v3 v5) [v4, (.int .i64 0)] h)
    (LoopR (law09_RankNumbers.l3 C N Q v1 v4) [(.int .i64 0)] h)
@[simp] def law09_RankNumbers.l9 (C : CSem) (N : Nat → Nat) (Q : AVal → AHeap → Prop) (v1 v2 v3 : AVal) : List AVal → AHeap → (List AVal → AHeap → Prop) → Prop
  | [v4, v5], h, Y2 => law09_RankNumbers.k8 C N Q Y2 v1 v2 v3 v4 v5 h
  | _, _, _ => False
@[simp] def law09_RankNumbers.k10 (C : CSem) (N : Nat → Nat) (Q : AVal → AHeap → Prop) (v1 v2 : AVal) (h : AHeap) : Prop :=
  B.newO h (fillL [(0, none, (.str [])), (1, none, (.str [65])), (2, none, (.str [97])), (3, none, (.str [65, 66, 67, 68, 69, 70, 71, 72, 73, 74, 75, 76, 77]))] (repL 4 [.str []])) fun i14 h =>
    LoopR (law09_RankNumbers.l9 C N Q v1 v2 (.sl i14 0 0 4 1 4)) [.nils, (.int .i64 0)] h
@[simp] def law09_RankNumbers.k11 (C : CSem) (N : Nat → Nat) (Q : AVal → AHeap → Prop) (v1 : AVal) (h : AHeap) : Prop :=
  B.newO h (fillL [(0, none, (.int .i64 (-1))), (1, none, (.int .i64 0)), (2, none, (.int .i64 1)), (3, none, (.int .i64 1073741824)), (4, none, (.int .i64 1073741825))] (repL 5 [.int .i64 0])) fun i13 h =>
    law09_RankNumbers.k10 C N Q v1 (.sl i13 0 0 5 1 5) h
@[simp] def law09_RankNumbers.k12 (C : CSem) (N : Nat → Nat) (Q : AVal → AHeap → Prop) (h : AHeap) : Prop :=
  B.newO h (fillL [(0, none, (.int .i64 (-9223372036854775808))), (1, none, (.int .i64 (-2))), (2, none, (.int .i64 (-1))), (3, none, (.int .i64 0)), (4, none, (.int .i64 1)), (5, none, (.int .i64 2)), (6, none, (.int .i64 98)), (7, none, (.int .i64 99)), (8, none, (.int .i64 100)), (9, none, (.int .i64 3999)), (10, none, (.int .i64 4000)), (11, none, (.int .i64 4001)), (12, none, (.int .i64 9223372036854775807))] (repL 13 [.int .i64 0])) fun i12 h =>
    law09_RankNumbers.k11 C N Q (.sl i12 0 0 13 1 13) h
/-- storeman/storemanlaw09.RankNumbers -/
@[simp] def law09_RankNumbers.cps (C : CSem) (N : Nat → Nat) (h : AHeap) (Q : AVal → AHeap → Prop) : Prop :=
  law09_RankNumbers.k12 C N Q h
def law09_RankNumbers.Imp (C : CSem) (N : Nat → Nat) : Prop := ∀ (h : AHeap) (Q : AVal → AHeap → Prop), law09_RankNumbers.cps C N h (dn Q) → C (N 197) [] h Q
@[simp] def law09_count.k1 (C : CSem) (N : Nat → Nat) (Q : AVal → AHeap → Prop) (Y1 : List AVal → AHeap → Prop) (v0 v5 v6 c3 : AVal) (h : AHeap) : Prop :=
  B.pv (V.lenSl v0) fun v9 =>
    B.pv (V.bin .lss v6 v9) fun v10 =>
    B.cond v10
    (B.pv (V.idxS 8 v0 v6) fun v15 =>
    B.ldn h v15 8 fun v16 =>
    B.pv (V.fieldN 0 8 c3) fun v17 =>
    B.pv (V.binAgg .eql [.i .i64, .s, .i .i64, .i .i64, .i .i64, .i .u8, .i .i64, .s] v16 v17) fun v18 =>
    B.cond v18
    (B.pv (V.bin .add v5 (.int .i64 1)) fun v20 =>
    B.pv (V.bin .add v6 (.int .i64 1)) fun v12 =>
    Y1 [v20, v12] h)
    (B.pv (V.bin .add v6 (.int .i64 1)) fun v12 =>
    Y1 [v5, v12] h))
    (Q v5 h)
@[simp] def law09_count.l2 (C : CSem) (N : Nat → Nat) (Q : AVal → AHeap → Prop) (v0 c3 : AVal) : List AVal → AHeap → (List AVal → AHeap → Prop) → Prop
  | [v5, v6], h, Y1 => law09_count.k1 C N Q Y1 v0 v5 v6 c3 h
  | _, _, _ => False
/-- storeman/storemanlaw09.count -/
@[simp] def law09_count.cps (C : CSem) (N : Nat → Nat) (v0 v1 : AVal) (h : AHeap) (Q : AVal → AHeap → Prop) : Prop :=
  B.pv (A.boxN 8 v1) fun c3 =>
    LoopR (law09_count.l2 C N Q v0 c3) [(.int .i64 0), (.int .i64 0)] h
def law09_count.Imp (C : CSem) (N : Nat → Nat) : Prop := ∀ (v0 v1 : AVal) (h : AHeap) (Q : AVal → AHeap → Prop), law09_count.cps C N v0 v1 h (dn Q) → C (N 198) [v0, v1] h Q
@[simp] def law09_RankOrder.k1 (C : CSem) (N : Nat → Nat) (Q : AVal → AHeap → Prop) (v9 v10 c5 c6 c7 : AVal) (h : AHeap) : Prop :=
  B.pv (V.fieldN 0 8 c5) fun v83 =>
    B.pv (V.fieldN 0 8 c6) fun v84 =>
    B.pv (V.fieldN 0 8 c6) fun v86 =>
    B.pv (V.fieldN 0 8 c7) fun v87 =>
    B.pv (V.fieldN 0 8 c5) fun v89 =>
    B.pv (V.fieldN 0 8 c7) fun v90 =>
    B.al c6 (B.al c7 (B.al c5 (B.al c7 (B.call C (N 181) [v83, v84] h fun v85 h =>
    B.al c5 (B.al c7 (B.call C (N 181) [v86, v87] h fun v88 h =>
    B.call C (N 181) [v89, v90] h fun v91 h =>
    B.pv (V.lenSl v9) fun v94 =>
    B.pv (V.bin .eql v10 v94) fun v95 =>
    B.gd h v95 true (fun K => B.pv (V.fieldN 0 8 c6) fun v => K v h) fun v97 h =>
    B.gd h v95 true (fun K => B.pv (V.fieldN 0 8 c5) fun v => K v h) fun v98 h =>
    B.gd h v95 true (fun K => B.call C (N 181) [v97, v98] h K) fun v99 h =>
    B.gd h v95 true (fun K => K v85 h) fun v100 h =>
    B.gd h v95 true (fun K => B.pv (V.un .neg v100) fun v => K v h) fun v101 h =>
    B.gd h v95 true (fun K => B.pv (V.bin .eql v99 v101) fun v => K v h) fun v102 h =>
    B.pick v95 v102 (.bool false) fun v103 =>
    B.gd h v103 true (fun K => B.pv (V.fieldN 0 8 c5) fun v => K v h) fun v105 h =>
    B.gd h v103 true (fun K => B.pv (V.fieldN 0 8 c5) fun v => K v h) fun v106 h =>
    B.gd h v103 true (fun K => B.call C (N 181) [v105, v106] h K) fun v107 h =>
    B.gd h v103 true (fun K => B.pv (V.bin .eql v107 (.int .i64 0)) fun v => K v h) fun v108 h =>
    B.pick v103 v108 (.bool false) fun v109 =>
    B.gd h v109 true (fun K => K v85 h) fun v111 h =>
    B.gd h v109 true (fun K => B.pv (V.bin .leq v111 (.int .i64 0)) fun v => K v h) fun v112 h =>
    B.gd h v109 true (fun K => K v112 h) fun v113 h =>
    B.gd h v113 true (fun K => K v88 h) fun v114 h =>
    B.gd h v113 true (fun K => B.pv (V.bin .leq v114 (.int .i64 0)) fun v => K v h) fun v115 h =>
    B.gd h v109 true (fun K => B.pick v113 v115 (.bool false) fun v => K v h) fun v116 h =>
    B.gd h v109 true (fun K => B.pv (V.un .not v116) fun v => K v h) fun v117 h =>
    B.gd h v109 true (fun K => K v117 h) fun v118 h =>
    B.gd h v118 false (fun K => K v91 h) fun v119 h =>
    B.gd h v118 false (fun K => B.pv (V.bin .leq v119 (.int .i64 0)) fun v => K v h) fun v120 h =>
    B.gd h v118 false (fun K => K v120 h) fun v121 h =>
    B.gd h v121 true (fun K => K v91 h) fun v122 h =>
    B.gd h v121 true (fun K => B.pv (V.bin .lss v122 (.int .i64 0)) fun v => K v h) fun v123 h =>
    B.gd h v121 true (fun K => K v123 h) fun v124 h =>
    B.gd h v124 false (fun K => K v85 h) fun v125 h =>
    B.gd h v124 false (fun K => B.pv (V.bin .eql v125 (.int .i64 0)) fun v => K v h) fun v126 h =>
    B.gd h v124 false (fun K => K v126 h) fun v127 h =>
    B.gd h v127 true (fun K => K v88 h) fun v128 h =>
    B.gd h v127 true (fun K => B.pv (V.bin .eql v128 (.int .i64 0)) fun v => K v h) fun v129 h =>
    B.gd h v124 false (fun K => B.pick v127 v129 (.bool false) fun v => K v h) fun v130 h =>
    B.gd h v121 true (fun K => B.pick v124 (.bool true) v130 fun v => K v h) fun v131 h =>
    B.gd h v118 false (fun K => B.pick v121 v131 (.bool false) fun v => K v h) fun v132 h =>
    B.gd h v109 true (fun K => B.pick v118 (.bool true) v132 fun v => K v h) fun v133 h =>
    B.pick v109 v133 (.bool false) fun v134 =>
    Q v134 h))))))
@[simp] def law09_RankOrder.k2 (C : CSem) (N : Nat → Nat) (Q : AVal → AHeap → Prop) (Y1 : List AVal → AHeap → Prop) (v9 v10 v12 c5 c6 c7 : AVal) (h : AHeap) : Prop :=
  B.pv (V.lenSl v9) fun v56 =>
    B.pv (V.bin .lss v12 v56) fun v57 =>
    B.cond v57
    (B.pv (V.idxS 8 v9 v12) fun v62 =>
    B.pv (V.fieldAddr 5 v62) fun v63 =>
    B.ld h v63 fun v64 =>
    B.pv (V.bin .neq v64 (.int .u8 1)) fun v65 =>
    B.gd h v65 false (fun K => K v12 h) fun v67 h =>
    B.gd h v65 false (fun K => B.pv (V.bin .gtr v67 (.int .i64 0)) fun v => K v h) fun v68 h =>
    B.gd h v65 false (fun K => K v68 h) fun v69 h =>
    B.gd h v69 true (fun K => K v9 h) fun v70 h =>
    B.gd h v69 true (fun K => K v12 h) fun v71 h =>
    B.gd h v69 true (fun K => B.pv (V.bin .sub v71 (.int .i64 1)) fun v => K v h) fun v72 h =>
    B.gd h v69 true (fun K => B.pv (V.idxS 8 v70 v72) fun v => K v h) fun v73 h =>
    B.gd h v69 true (fun K => B.ldn h v73 8 fun v => K v h) fun v74 h =>
    B.gd h v69 true (fun K => K v9 h) fun v75 h =>
    B.gd h v69 true (fun K => K v12 h) fun v76 h =>
    B.gd h v69 true (fun K => B.pv (V.idxS 8 v75 v76) fun v => K v h) fun v77 h =>
    B.gd h v69 true (fun K => B.ldn h v77 8 fun v => K v h) fun v78 h =>
    B.gd h v69 true (fun K => B.call C (N 181) [v74, v78] h K) fun v79 h =>
    B.gd h v69 true (fun K => B.pv (V.bin .gtr v79 (.int .i64 0)) fun v => K v h) fun v80 h =>
    B.gd h v65 false (fun K => B.pick v69 v80 (.bool false) fun v => K v h) fun v81 h =>
    B.pick v65 (.bool true) v81 fun v82 =>
    B.cond v82
    (Q (.bool false) h)
    (B.pv (V.bin .add v12 (.int .i64 1)) fun v59 =>
    Y1 [v59] h))
    (law09_RankOrder.k1 C N Q v9 v10 c5 c6 c7 h)
@[simp] def law09_RankOrder.l3 (C : CSem) (N : Nat → Nat) (Q : AVal → AHeap → Prop) (v9 v10 c5 c6 c7 : AVal) : List AVal → AHeap → (List AVal → AHeap → Prop) → Prop
  | [v12], h, Y1 => law09_RankOrder.k2 C N Q Y1 v9 v10 v12 c5 c6 c7 h
  | _, _, _ => False
@[simp] def law09_RankOrder.k4 (C : CSem) (N : Nat → Nat) (Q : AVal → AHeap → Prop) (Y2 : List AVal → AHeap → Prop) (v0 v9 v10 v11 c5 c6 c7 : AVal) (h : AHeap) : Prop :=
  B.pv (V.lenSl v0) fun v29 =>
    B.pv (V.bin .lss v11 v29) fun v30 =>
    B.cond v30
    (B.pv (V.idxS 8 v0 v11) fun v35 =>
    B.pv (V.fieldAddr 5 v35) fun v36 =>
    B.ld h v36 fun v37 =>
    B.pv (V.bin .eql v37 (.int .u8 1)) fun v38 =>
    B.cond v38
    (B.pv (V.bin .add v10 (.int .i64 1)) fun v40 =>
    B.pv (V.idxS 8 v0 v11) fun v44 =>
    B.ldn h v44 8 fun v45 =>
    B.pv (V.idxS 8 v0 v11) fun v50 =>
    B.ldn h v50 8 fun v51 =>
    B.call C (N 198) [v9, v45] h (B.keepS h [(v50, some 8)] (fun v46 h => B.call C (N 198) [v0, v51] h fun v52 h =>
    B.pv (V.bin .neq v46 v52) fun v53 =>
    B.cond v53
    (Q (.bool false) h)
    (B.pv (V.bin .add v11 (.int .i64 1)) fun v32 =>
    Y2 [v40, v32] h))))
    (B.pv (V.bin .add v11 (.int .i64 1)) fun v32 =>
    Y2 [v10, v32] h))
    (LoopR (law09_RankOrder.l3 C N Q v9 v10 c5 c6 c7) [(.int .i64 0)] h)
@[simp] def law09_RankOrder.l5 (C : CSem) (N : Nat → Nat) (Q : AVal → AHeap → Prop) (v0 v9 c5 c6 c7 : AVal) : List AVal → AHeap → (List AVal → AHeap → Prop) → Prop
  | [v10, v11], h, Y2 => law09_RankOrder.k4 C N Q Y2 v0 v9 v10 v11 c5 c6 c7 h
  | _, _, _ => False
@[simp] def law09_RankOrder.k6 (C : CSem) (N : Nat → Nat) (Q : AVal → AHeap → Prop) (v0 v9 c5 c6 c7 : AVal) (h : AHeap) : Prop :=
  B.call C (N 187) [v9] h fun v23 h =>
    B.call C (N 135) [v23, v9] h fun v25 h =>
    B.pv (V.un .not v25) fun v26 =>
    B.cond v26
    (Q (.bool false) h)
    (LoopR (law09_RankOrder.l5 C N Q v0 v9 c5 c6 c7) [(.int .i64 0), (.int .i64 0)] h)
@[simp] def law09_RankOrder.k7 (C : CSem) (N : Nat → Nat) (Q : AVal → AHeap → Prop) (v0 c5 c6 c7 : AVal) (h : AHeap) : Prop :=
  B.call C (N 185) [v0] h fun v19 h =>
    B.cond v19
    (Q (.bool true) h)
    (B.call C (N 187) [v0] h fun v21 h =>
    law09_RankOrder.k6 C N Q v0 v21 c5 c6 c7 h)
@[simp] def law09_RankOrder.k8 (C : CSem) (N : Nat → Nat) (Q : AVal → AHeap → Prop) (v0 v1 v2 v3 : AVal) (h : AHeap) : Prop :=
  B.pv (A.boxN 8 v1) fun c5 =>
    B.pv (A.boxN 8 v2) fun c6 =>
    B.pv (A.boxN 8 v3) fun c7 =>
    B.call C (N 183) [] h fun v16 h =>
    B.pv (V.un .not v16) fun v17 =>
    B.cond v17
    (Q (.bool false) h)
    (law09_RankOrder.k7 C N Q v0 c5 c6 c7 h)
/-- storeman/storemanlaw09.RankOrder -/
@[simp] def law09_RankOrder.cps (C : CSem) (N : Nat → Nat) (v0 v1 v2 v3 : AVal) (h : AHeap) (Q : AVal → AHeap → Prop) : Prop :=
  law09_RankOrder.k8 C N Q v0 v1 v2 v3 h
def law09_RankOrder.Imp (C : CSem) (N : Nat → Nat) : Prop := ∀ (v0 v1 v2 v3 : AVal) (h : AHeap) (Q : AVal → AHeap → Prop), law09_RankOrder.cps C N v0 v1 v2 v3 h (dn Q) → C (N 199) [v0, v1, v2, v3] h Q
@[simp] def law09_RankAhead.k1 (C : CSem) (N : Nat → Nat) (Q : AVal → AHeap → Prop) (Y1 : List AVal → AHeap → Prop) (v7 v9 v10 c8 : AVal) (h : AHeap) : Prop :=
  B.pv (V.lenSl v7) fun v83 =>
    B.pv (V.bin .lss v10 v83) fun v84 =>
    B.cond v84
    (B.pv (V.idxS 8 v7 v10) fun v89 =>
    B.ldn h v89 8 fun v90 =>
    B.pv (V.fieldN 0 8 c8) fun v91 =>
    B.pv (V.idxS 8 v7 v10) fun v97 =>
    B.ldn h v97 8 fun v98 =>
    B.call C (N 181) [v90, v91] h (B.keepS h [(v97, some 8)] (fun v92 h => B.pv (V.bin .lss v92 (.int .i64 0)) fun v93 =>
    B.call C (N 198) [v9, v98] h fun v99 h =>
    B.pv (V.bin .eql v99 (.int .i64 1)) fun v100 =>
    B.pv (V.eqBool .neq v93 v100) fun v101 =>
    B.gd h v101 false (fun K => K v7 h) fun v103 h =>
    B.gd h v101 false (fun K => K v10 h) fun v104 h =>
    B.gd h v101 false (fun K => B.pv (V.idxS 8 v103 v104) fun v => K v h) fun v105 h =>
    B.gd h v101 false (fun K => B.ldn h v105 8 fun v => K v h) fun v106 h =>
    B.gd h v101 false (fun K => B.pv (V.fieldN 0 8 c8) fun v => K v h) fun v107 h =>
    B.gd h v101 false (fun K => B.pv (V.binAgg .neq [.i .i64, .s, .i .i64, .i .i64, .i .i64, .i .u8, .i .i64, .s] v106 v107) fun v => K v h) fun v108 h =>
    B.gd h v101 false (fun K => K v108 h) fun v109 h =>
    B.gd h v109 true (fun K => K v7 h) fun v110 h =>
    B.gd h v109 true (fun K => K v10 h) fun v111 h =>
    B.gd h v109 true (fun K => B.pv (V.idxS 8 v110 v111) fun v => K v h) fun v112 h =>
    B.gd h v109 true (fun K => B.ldn h v112 8 fun v => K v h) fun v113 h =>
    B.gd h v109 true (fun K => B.pv (V.fieldN 0 8 c8) fun v => K v h) fun v114 h =>
    B.gd h v109 true (fun K => B.call C (N 181) [v113, v114] h K) fun v115 h =>
    B.gd h v109 true (fun K => B.pv (V.bin .eql v115 (.int .i64 0)) fun v => K v h) fun v116 h =>
    B.gd h v101 false (fun K => B.pick v109 v116 (.bool false) fun v => K v h) fun v117 h =>
    B.pick v101 (.bool true) v117 fun v118 =>
    B.cond v118
    (Q (.bool false) h)
    (B.pv (V.bin .add v10 (.int .i64 1)) fun v86 =>
    Y1 [v86] h))))
    (Q (.bool true) h)
@[simp] def law09_RankAhead.l2 (C : CSem) (N : Nat → Nat) (Q : AVal → AHeap → Prop) (v7 v9 c8 : AVal) : List AVal → AHeap → (List AVal → AHeap → Prop) → Prop
  | [v10], h, Y1 => law09_RankAhead.k1 C N Q Y1 v7 v9 v10 c8 h
  | _, _, _ => False
@[simp] def law09_RankAhead.k3 (C : CSem) (N : Nat → Nat) (Q : AVal → AHeap → Prop) (v7 v9 c8 : AVal) (h : AHeap) : Prop :=
  B.pv (V.lenSl v9) fun v59 =>
    B.pv (V.lenSl v7) fun v61 =>
    B.pv (V.bin .geq v59 v61) fun v62 =>
    B.gd h v62 false (fun K => K v9 h) fun v64 h =>
    B.gd h v62 false (fun K => K v7 h) fun v65 h =>
    B.gd h v62 false (fun K => K v9 h) fun v66 h =>
    B.gd h v62 false (fun K => B.pv (V.lenSl v66) fun v => K v h) fun v67 h =>
    B.gd h v62 false (fun K => B.pv (V.cutSl 8 v65 none (some v67)) fun v => K v h) fun v68 h =>
    B.gd h v62 false (fun K => B.call C (N 135) [v64, v68] h K) fun v69 h =>
    B.gd h v62 false (fun K => B.pv (V.un .not v69) fun v => K v h) fun v70 h =>
    B.pick v62 (.bool true) v70 fun v71 =>
    B.gd h v71 false (fun K => K v7 h) fun v73 h =>
    B.gd h v71 false (fun K => K v9 h) fun v74 h =>
    B.gd h v71 false (fun K => B.pv (V.lenSl v74) fun v => K v h) fun v75 h =>
    B.gd h v71 false (fun K => B.pv (V.idxS 8 v73 v75) fun v => K v h) fun v76 h =>
    B.gd h v71 false (fun K => B.ldn h v76 8 fun v => K v h) fun v77 h =>
    B.gd h v71 false (fun K => B.pv (V.fieldN 0 8 c8) fun v => K v h) fun v78 h =>
    B.gd h v71 false (fun K => B.pv (V.binAgg .neq [.i .i64, .s, .i .i64, .i .i64, .i .i64, .i .u8, .i .i64, .s] v77 v78) fun v => K v h) fun v79 h =>
    B.pick v71 (.bool true) v79 fun v80 =>
    B.cond v80
    (Q (.bool false) h)
    (LoopR (law09_RankAhead.l2 C N Q v7 v9 c8) [(.int .i64 0)] h)
@[simp] def law09_RankAhead.k4 (C : CSem) (N : Nat → Nat) (Q : AVal → AHeap → Prop) (v0 v1 v7 : AVal) (h : AHeap) : Prop :=
  B.pv (V.lenSl v7) fun v50 =>
    B.call C (N 155) [v1, v50] h fun v51 h =>
    B.pv (V.idxS 8 v7 v51) fun v52 =>
    B.ldn h v52 8 fun v53 =>
    B.pv (V.setN 0 8 v53 (.agg [.int .i64 0, .str [], .int .i64 0, .int .i64 0, .int .i64 0, .int .u8 0, .int .i64 0, .str []])) fun c8 =>
    B.al c8 (B.pv (V.field1 0 c8) fun v56 =>
    B.call C (N 188) [v0, v56] h fun v57 h =>
    law09_RankAhead.k3 C N Q v7 v57 c8 h)
@[simp] def law09_RankAhead.k5 (C : CSem) (N : Nat → Nat) (Q : AVal → AHeap → Prop) (v0 v1 v7 : AVal) (h : AHeap) : Prop :=
  B.pv (V.lenSl v7) fun v40 =>
    B.pv (V.bin .eql v40 (.int .i64 0)) fun v41 =>
    B.cond v41
    (B.call C (N 188) [v0, v1] h fun v44 h =>
    B.pv (V.lenSl v44) fun v45 =>
    B.pv (V.bin .eql v45 (.int .i64 0)) fun v46 =>
    Q v46 h)
    (law09_RankAhead.k4 C N Q v0 v1 v7 h)
@[simp] def law09_RankAhead.k6 (C : CSem) (N : Nat → Nat) (Q : AVal → AHeap → Prop) (Y2 : List AVal → AHeap → Prop) (Y3 : List AVal → AHeap → Prop) (v0 v1 v5 v6 : AVal) (h : AHeap) : Prop :=
  B.pv (V.bin .lss v6 v5) fun v23 =>
    B.cond v23
    (B.pv (V.idxS 8 v0 v5) fun v28 =>
    B.pv (V.fieldAddr 0 v28) fun v29 =>
    B.ld h v29 fun v30 =>
    B.pv (V.idxS 8 v0 v6) fun v33 =>
    B.pv (V.fieldAddr 0 v33) fun v34 =>
    B.ld h v34 fun v35 =>
    B.pv (V.bin .eql v30 v35) fun v36 =>
    B.cond v36
    (Q (.bool true) h)
    (B.pv (V.bin .add v6 (.int .i64 1)) fun v25 =>
    Y3 [v25] h))
    (B.pv (V.bin .add v5 (.int .i64 1)) fun v20 =>
    Y2 [v20] h)
@[simp] def law09_RankAhead.l7 (C : CSem) (N : Nat → Nat) (Q : AVal → AHeap → Prop) (Y2 : List AVal → AHeap → Prop) (v0 v1 v5 : AVal) : List AVal → AHeap → (List AVal → AHeap → Prop) → Prop
  | [v6], h, Y3 => law09_RankAhead.k6 C N Q Y2 Y3 v0 v1 v5 v6 h
  | _, _, _ => False
@[simp] def law09_RankAhead.k8 (C : CSem) (N : Nat → Nat) (Q : AVal → AHeap → Prop) (Y2 : List AVal → AHeap → Prop) (v0 v1 v5 : AVal) (h : AHeap) : Prop :=
  B.pv (V.lenSl v0) fun v17 =>
    B.pv (V.bin .lss v5 v17) fun v18 =>
    B.cond v18
    (LoopR (law09_RankAhead.l7 C N Q Y2 v0 v1 v5) [(.int .i64 0)] h)
    (B.call C (N 187) [v0] h fun v38 h =>
    law09_RankAhead.k5 C N Q v0 v1 v38 h)
@[simp] def law09_RankAhead.l9 (C : CSem) (N : Nat → Nat) (Q : AVal → AHeap → Prop) (v0 v1 : AVal) : List AVal → AHeap → (List AVal → AHeap → Prop) → Prop
  | [v5], h, Y2 => law09_RankAhead.k8 C N Q Y2 v0 v1 v5 h
  | _, _, _ => False
@[simp] def law09_RankAhead.k10 (C : CSem) (N : Nat → Nat) (Q : AVal → AHeap → Prop) (v0 v1 : AVal) (h : AHeap) : Prop :=
  B.call C (N 183) [] h fun v11 h =>
    B.pv (V.un .not v11) fun v12 =>
    B.cond v12
    (Q (.bool false) h)
    (B.call C (N 185) [v0] h fun v14 h =>
    B.cond v14
    (Q (.bool true) h)
    (LoopR (law09_RankAhead.l9 C N Q v0 v1) [(.int .i64 0)] h))
/-- storeman/storemanlaw09.RankAhead -/
@[simp] def law09_RankAhead.cps (C : CSem) (N : Nat → Nat) (v0 v1 : AVal) (h : AHeap) (Q : AVal → AHeap → Prop) : Prop :=
  law09_RankAhead.k10 C N Q v0 v1 h
def law09_RankAhead.Imp (C : CSem) (N : Nat → Nat) : Prop := ∀ (v0 v1 : AVal) (h : AHeap) (Q : AVal → AHeap → Prop), law09_RankAhead.cps C N v0 v1 h (dn Q) → C (N 200) [v0, v1] h Q
end Go.Ab

/- What is told: residuals: what each function does in the abstract memory, printed by a program of mine. Definitions alone. -/
set_option linter.unusedVariables false
namespace Go.Ab
@[simp] def rank_Right.k1 (C : CSem) (N : Nat → Nat) (Q : AVal → AHeap → Prop) (v0 : AVal) (h : AHeap) : Prop :=
  B.pv (A.boxN 8 v0) fun c1 =>
    B.al c1 (B.pv (V.field1 0 c1) fun v4 =>
    B.pv (V.bin .lss v4 (.int .i64 1)) fun v5 =>
    B.al c1 (B.gd h v5 false (fun K => K .undef h) fun _ h =>
    B.gd h v5 false (fun K => B.pv (V.field1 1 c1) fun v => K v h) fun v8 h =>
    B.gd h v5 false (fun K => B.call C (N 53) [v8] h K) fun v9 h =>
    B.gd h v5 false (fun K => B.pv (V.un .not v9) fun v => K v h) fun v10 h =>
    B.pick v5 (.bool true) v10 fun v11 =>
    B.al c1 (B.gd h v11 false (fun K => K .undef h) fun _ h =>
    B.gd h v11 false (fun K => B.pv (V.field1 2 c1) fun v => K v h) fun v14 h =>
    B.gd h v11 false (fun K => B.pv (V.bin .lss v14 (.int .i64 1)) fun v => K v h) fun v15 h =>
    B.pick v11 (.bool true) v15 fun v16 =>
    B.al c1 (B.gd h v16 false (fun K => K .undef h) fun _ h =>
    B.gd h v16 false (fun K => B.pv (V.field1 2 c1) fun v => K v h) fun v19 h =>
    B.gd h v16 false (fun K => B.pv (V.bin .gtr v19 (.int .i64 1073741824)) fun v => K v h) fun v20 h =>
    B.pick v16 (.bool true) v20 fun v21 =>
    B.al c1 (B.gd h v21 false (fun K => K .undef h) fun _ h =>
    B.gd h v21 false (fun K => B.pv (V.field1 3 c1) fun v => K v h) fun v24 h =>
    B.gd h v21 false (fun K => B.pv (V.bin .lss v24 (.int .i64 0)) fun v => K v h) fun v25 h =>
    B.pick v21 (.bool true) v25 fun v26 =>
    B.al c1 (B.gd h v26 false (fun K => K .undef h) fun _ h =>
    B.gd h v26 false (fun K => B.pv (V.field1 3 c1) fun v => K v h) fun v29 h =>
    B.gd h v26 false (fun K => B.pv (V.bin .gtr v29 (.int .i64 4000)) fun v => K v h) fun v30 h =>
    B.pick v26 (.bool true) v30 fun v31 =>
    B.al c1 (B.gd h v31 false (fun K => K .undef h) fun _ h =>
    B.gd h v31 false (fun K => B.pv (V.field1 4 c1) fun v => K v h) fun v34 h =>
    B.gd h v31 false (fun K => B.pv (V.bin .lss v34 (.int .i64 0)) fun v => K v h) fun v35 h =>
    B.pick v31 (.bool true) v35 fun v36 =>
    B.al c1 (B.gd h v36 false (fun K => K .undef h) fun _ h =>
    B.gd h v36 false (fun K => B.pv (V.field1 4 c1) fun v => K v h) fun v39 h =>
    B.gd h v36 false (fun K => B.pv (V.bin .gtr v39 (.int .i64 99)) fun v => K v h) fun v40 h =>
    B.pick v36 (.bool true) v40 fun v41 =>
    B.cond v41
    (Q (.bool false) h)
    (B.al c1 (B.pv (V.field1 5 c1) fun v43 =>
    B.pv (V.bin .lss v43 (.int .u8 1)) fun v44 =>
    B.al c1 (B.gd h v44 false (fun K => K .undef h) fun _ h =>
    B.gd h v44 false (fun K => B.pv (V.field1 5 c1) fun v => K v h) fun v47 h =>
    B.gd h v44 false (fun K => B.pv (V.bin .gtr v47 (.int .u8 3)) fun v => K v h) fun v48 h =>
    B.pick v44 (.bool true) v48 fun v49 =>
    B.cond v49
    (Q (.bool false) h)
    (B.al c1 (B.pv (V.field1 6 c1) fun v51 =>
    B.pv (V.bin .eql v51 (.int .i64 (-1))) fun v52 =>
    B.cond v52
    (B.al c1 (B.pv (V.field1 7 c1) fun v54 =>
    B.pv (V.bin .eql v54 (.str [])) fun v55 =>
    B.al c1 (B.gd h v55 true (fun K => K .undef h) fun _ h =>
    B.gd h v55 true (fun K => B.pv (V.field1 5 c1) fun v => K v h) fun v58 h =>
    B.gd h v55 true (fun K => B.pv (V.bin .neq v58 (.int .u8 2)) fun v => K v h) fun v59 h =>
    B.pick v55 v59 (.bool false) fun v60 =>
    Q v60 h)))
    (B.al c1 (B.pv (V.field1 6 c1) fun v62 =>
    B.pv (V.bin .geq v62 (.int .i64 0)) fun v63 =>
    B.al c1 (B.gd h v63 true (fun K => K .undef h) fun _ h =>
    B.gd h v63 true (fun K => B.pv (V.field1 6 c1) fun v => K v h) fun v66 h =>
    B.gd h v63 true (fun K => B.pv (V.bin .leq v66 (.int .i64 4000)) fun v => K v h) fun v67 h =>
    B.pick v63 v67 (.bool false) fun v68 =>
    B.al c1 (B.gd h v68 true (fun K => K .undef h) fun _ h =>
    B.gd h v68 true (fun K => B.pv (V.field1 7 c1) fun v => K v h) fun v71 h =>
    B.gd h v68 true (fun K => B.call C (N 53) [v71] h K) fun v72 h =>
    B.pick v68 v72 (.bool false) fun v73 =>
    B.al c1 (B.gd h v73 true (fun K => K .undef h) fun _ h =>
    B.gd h v73 true (fun K => B.pv (V.field1 5 c1) fun v => K v h) fun v76 h =>
    B.gd h v73 true (fun K => B.pv (V.bin .neq v76 (.int .u8 3)) fun v => K v h) fun v77 h =>
    B.pick v73 v77 (.bool false) fun v78 =>
    Q v78 h))))))))))))))))))
/-- storeman/rank.Right -/
@[simp] def rank_Right.cps (C : CSem) (N : Nat → Nat) (v0 : AVal) (h : AHeap) (Q : AVal → AHeap → Prop) : Prop :=
  rank_Right.k1 C N Q v0 h
def rank_Right.Imp (C : CSem) (N : Nat → Nat) : Prop := ∀ (v0 : AVal) (h : AHeap) (Q : AVal → AHeap → Prop), rank_Right.cps C N v0 h (dn Q) → C (N 179) [v0] h Q
@[simp] def rank_Compare.k1 (C : CSem) (N : Nat → Nat) (Q : AVal → AHeap → Prop) (v0 v1 : AVal) (h : AHeap) : Prop :=
  B.pv (A.boxN 8 v0) fun c2 =>
    B.pv (A.boxN 8 v1) fun c3 =>
    B.al c2 (B.pv (V.field1 4 c2) fun v6 =>
    B.al c3 (B.pv (V.field1 4 c3) fun v8 =>
    B.al c2 (B.pv (V.field1 0 c2) fun v11 =>
    B.al c3 (B.pv (V.field1 0 c3) fun v13 =>
    B.call C (N 157) [v6, v8] h fun v9 h =>
    B.call C (N 157) [v11, v13] h fun v14 h =>
    B.newO h (fillL [(0, none, v9), (1, none, v14)] (repL 2 [.int .i64 0])) fun i15 h =>
    B.call C (N 158) [(.sl i15 0 0 2 1 2)] h fun v16 h =>
    Q v16 h))))
/-- storeman/rank.Compare -/
@[simp] def rank_Compare.cps (C : CSem) (N : Nat → Nat) (v0 v1 : AVal) (h : AHeap) (Q : AVal → AHeap → Prop) : Prop :=
  rank_Compare.k1 C N Q v0 v1 h
def rank_Compare.Imp (C : CSem) (N : Nat → Nat) : Prop := ∀ (v0 v1 : AVal) (h : AHeap) (Q : AVal → AHeap → Prop), rank_Compare.cps C N v0 v1 h (dn Q) → C (N 181) [v0, v1] h Q
@[simp] def rank_Open.k1 (C : CSem) (N : Nat → Nat) (Q : AVal → AHeap → Prop) (v0 : AVal) (h : AHeap) : Prop :=
  B.call C (N 201) [v0] h fun v5 h =>
    B.call C (N 203) [v5, (.fn (N 202) [] [])] h fun v7 h =>
    B.call C (N 204) [v7, (.fn (N 181) [] [])] h fun v9 h =>
    Q v7 h
/-- storeman/rank.Open -/
@[simp] def rank_Open.cps (C : CSem) (N : Nat → Nat) (v0 : AVal) (h : AHeap) (Q : AVal → AHeap → Prop) : Prop :=
  rank_Open.k1 C N Q v0 h
def rank_Open.Imp (C : CSem) (N : Nat → Nat) : Prop := ∀ (v0 : AVal) (h : AHeap) (Q : AVal → AHeap → Prop), rank_Open.cps C N v0 h (dn Q) → C (N 187) [v0] h Q
@[simp] def rank_Ahead.k1 (C : CSem) (N : Nat → Nat) (Q : AVal → AHeap → Prop) (v0 v1 : AVal) (h : AHeap) : Prop :=
  B.newO h (A.cells1 v1) fun i3 h =>
    B.call C (N 187) [v0] h fun v8 h =>
    B.call C (N 206) [v8, (.fn (N 205) [] [(.ptr i3 0 0)])] h fun v11 h =>
    B.pv (V.bin .lss v11 (.int .i64 0)) fun v13 =>
    B.cond v13
    (Q .nils h)
    (B.pv (V.cut3 8 v8 (.int .i64 0) v11 v11) fun v17 =>
    Q v17 h)
/-- storeman/rank.Ahead -/
@[simp] def rank_Ahead.cps (C : CSem) (N : Nat → Nat) (v0 v1 : AVal) (h : AHeap) (Q : AVal → AHeap → Prop) : Prop :=
  rank_Ahead.k1 C N Q v0 v1 h
def rank_Ahead.Imp (C : CSem) (N : Nat → Nat) : Prop := ∀ (v0 v1 : AVal) (h : AHeap) (Q : AVal → AHeap → Prop), rank_Ahead.cps C N v0 v1 h (dn Q) → C (N 188) [v0, v1] h Q
/-- storeman/rank.Open$1 -/
@[simp] def rank_Open_1.cps (C : CSem) (N : Nat → Nat) (v0 : AVal) (h : AHeap) (Q : AVal → AHeap → Prop) : Prop :=
  B.pv (A.boxN 8 v0) fun c1 =>
    B.al c1 (B.pv (V.field1 5 c1) fun v4 =>
    B.pv (V.bin .neq v4 (.int .u8 1)) fun v5 =>
    Q v5 h)
def rank_Open_1.Imp (C : CSem) (N : Nat → Nat) : Prop := ∀ (v0 : AVal) (h : AHeap) (Q : AVal → AHeap → Prop), rank_Open_1.cps C N v0 h (dn Q) → C (N 202) [v0] h Q
/-- storeman/rank.Ahead$1 -/
@[simp] def rank_Ahead_1.cps (C : CSem) (N : Nat → Nat) (v0 v1 : AVal) (h : AHeap) (Q : AVal → AHeap → Prop) : Prop :=
  B.pv (A.boxN 8 v0) fun c2 =>
    B.al c2 (B.pv (V.field1 0 c2) fun v5 =>
    B.ld h v1 fun v6 =>
    B.pv (V.bin .eql v5 v6) fun v7 =>
    Q v7 h)
def rank_Ahead_1.Imp (C : CSem) (N : Nat → Nat) : Prop := ∀ (v0 v1 : AVal) (h : AHeap) (Q : AVal → AHeap → Prop), rank_Ahead_1.cps C N v0 v1 h (dn Q) → C (N 205) [v0, v1] h Q
end Go.Ab

/- What is told: residuals: what each function does in the abstract memory, printed by a program of mine. Definitions alone. -/
set_option linter.unusedVariables false
namespace Go.Ab
@[simp] def ref03_Right.k1 (C : CSem) (N : Nat → Nat) (Q : AVal → AHeap → Prop) (Y1 : List AVal → AHeap → Prop) (v0 v3 : AVal) (h : AHeap) : Prop :=
  B.pv (V.lenStr v0) fun v16 =>
    B.pv (V.bin .lss v3 v16) fun v17 =>
    B.cond v17
    (B.pv (V.idxStr v0 v3) fun v22 =>
    B.pv (V.bin .geq v22 (.int .u8 65)) fun v23 =>
    B.gd h v23 true (fun K => K v0 h) fun v25 h =>
    B.gd h v23 true (fun K => K v3 h) fun v26 h =>
    B.gd h v23 true (fun K => B.pv (V.idxStr v25 v26) fun v => K v h) fun v27 h =>
    B.gd h v23 true (fun K => B.pv (V.bin .leq v27 (.int .u8 90)) fun v => K v h) fun v28 h =>
    B.pick v23 v28 (.bool false) fun v29 =>
    B.pv (V.idxStr v0 v3) fun v32 =>
    B.pv (V.bin .geq v32 (.int .u8 48)) fun v33 =>
    B.gd h v33 true (fun K => K v0 h) fun v35 h =>
    B.gd h v33 true (fun K => K v3 h) fun v36 h =>
    B.gd h v33 true (fun K => B.pv (V.idxStr v35 v36) fun v => K v h) fun v37 h =>
    B.gd h v33 true (fun K => B.pv (V.bin .leq v37 (.int .u8 57)) fun v => K v h) fun v38 h =>
    B.pick v33 v38 (.bool false) fun v39 =>
    B.gd h v39 false (fun K => K v0 h) fun v41 h =>
    B.gd h v39 false (fun K => K v3 h) fun v42 h =>
    B.gd h v39 false (fun K => B.pv (V.idxStr v41 v42) fun v => K v h) fun v43 h =>
    B.gd h v39 false (fun K => B.pv (V.bin .eql v43 (.int .u8 45)) fun v => K v h) fun v44 h =>
    B.pick v39 (.bool true) v44 fun v45 =>
    B.pv (V.un .not v29) fun v47 =>
    B.gd h v47 true (fun K => K v3 h) fun v49 h =>
    B.gd h v47 true (fun K => B.pv (V.bin .eql v49 (.int .i64 0)) fun v => K v h) fun v50 h =>
    B.gd h v47 true (fun K => K v50 h) fun v51 h =>
    B.gd h v51 false (fun K => K v45 h) fun v52 h =>
    B.gd h v51 false (fun K => B.pv (V.un .not v52) fun v => K v h) fun v53 h =>
    B.gd h v47 true (fun K => B.pick v51 (.bool true) v53 fun v => K v h) fun v54 h =>
    B.pick v47 v54 (.bool false) fun v55 =>
    B.cond v55
    (Q (.bool false) h)
    (B.pv (V.bin .add v3 (.int .i64 1)) fun v19 =>
    Y1 [v19] h))
    (Q (.bool true) h)
@[simp] def ref03_Right.l2 (C : CSem) (N : Nat → Nat) (Q : AVal → AHeap → Prop) (v0 : AVal) : List AVal → AHeap → (List AVal → AHeap → Prop) → Prop
  | [v3], h, Y1 => ref03_Right.k1 C N Q Y1 v0 v3 h
  | _, _, _ => False
@[simp] def ref03_Right.k3 (C : CSem) (N : Nat → Nat) (Q : AVal → AHeap → Prop) (v0 : AVal) (h : AHeap) : Prop :=
  B.pv (V.lenStr v0) fun v7 =>
    B.pv (V.bin .lss v7 (.int .i64 1)) fun v8 =>
    B.gd h v8 false (fun K => K v0 h) fun v10 h =>
    B.gd h v8 false (fun K => B.pv (V.lenStr v10) fun v => K v h) fun v11 h =>
    B.gd h v8 false (fun K => B.pv (V.bin .gtr v11 (.int .i64 12)) fun v => K v h) fun v12 h =>
    B.pick v8 (.bool true) v12 fun v13 =>
    B.cond v13
    (Q (.bool false) h)
    (LoopR (ref03_Right.l2 C N Q v0) [(.int .i64 0)] h)
/-- storeman/storemanref03.Right -/
@[simp] def ref03_Right.cps (C : CSem) (N : Nat → Nat) (v0 : AVal) (h : AHeap) (Q : AVal → AHeap → Prop) : Prop :=
  ref03_Right.k3 C N Q v0 h
def ref03_Right.Imp (C : CSem) (N : Nat → Nat) : Prop := ∀ (v0 : AVal) (h : AHeap) (Q : AVal → AHeap → Prop), ref03_Right.cps C N v0 h (dn Q) → C (N 61) [v0] h Q
end Go.Ab

/- What is told: residuals: what each function does in the abstract memory, printed by a program of mine. Definitions alone. -/
set_option linter.unusedVariables false
namespace Go.Ab
@[simp] def ref09_Right.k1 (C : CSem) (N : Nat → Nat) (Q : AVal → AHeap → Prop) (v0 : AVal) (h : AHeap) : Prop :=
  B.pv (A.boxN 8 v0) fun c1 =>
    B.al c1 (B.pv (V.field1 0 c1) fun v6 =>
    B.pv (V.bin .lss v6 (.int .i64 1)) fun v7 =>
    B.al c1 (B.gd h v7 false (fun K => K .undef h) fun _ h =>
    B.gd h v7 false (fun K => B.pv (V.field1 1 c1) fun v => K v h) fun v10 h =>
    B.gd h v7 false (fun K => B.call C (N 61) [v10] h K) fun v11 h =>
    B.gd h v7 false (fun K => B.pv (V.un .not v11) fun v => K v h) fun v12 h =>
    B.pick v7 (.bool true) v12 fun v13 =>
    B.al c1 (B.gd h v13 false (fun K => K .undef h) fun _ h =>
    B.gd h v13 false (fun K => B.pv (V.field1 2 c1) fun v => K v h) fun v16 h =>
    B.gd h v13 false (fun K => B.pv (V.bin .lss v16 (.int .i64 1)) fun v => K v h) fun v17 h =>
    B.pick v13 (.bool true) v17 fun v18 =>
    B.al c1 (B.gd h v18 false (fun K => K .undef h) fun _ h =>
    B.gd h v18 false (fun K => B.pv (V.field1 2 c1) fun v => K v h) fun v21 h =>
    B.gd h v18 false (fun K => B.pv (V.bin .gtr v21 (.int .i64 1073741824)) fun v => K v h) fun v22 h =>
    B.pick v18 (.bool true) v22 fun v23 =>
    B.al c1 (B.gd h v23 false (fun K => K .undef h) fun _ h =>
    B.gd h v23 false (fun K => B.pv (V.field1 3 c1) fun v => K v h) fun v26 h =>
    B.gd h v23 false (fun K => B.pv (V.bin .lss v26 (.int .i64 0)) fun v => K v h) fun v27 h =>
    B.pick v23 (.bool true) v27 fun v28 =>
    B.al c1 (B.gd h v28 false (fun K => K .undef h) fun _ h =>
    B.gd h v28 false (fun K => B.pv (V.field1 3 c1) fun v => K v h) fun v31 h =>
    B.gd h v28 false (fun K => B.pv (V.bin .gtr v31 (.int .i64 4000)) fun v => K v h) fun v32 h =>
    B.pick v28 (.bool true) v32 fun v33 =>
    B.al c1 (B.gd h v33 false (fun K => K .undef h) fun _ h =>
    B.gd h v33 false (fun K => B.pv (V.field1 4 c1) fun v => K v h) fun v36 h =>
    B.gd h v33 false (fun K => B.pv (V.bin .lss v36 (.int .i64 0)) fun v => K v h) fun v37 h =>
    B.pick v33 (.bool true) v37 fun v38 =>
    B.al c1 (B.gd h v38 false (fun K => K .undef h) fun _ h =>
    B.gd h v38 false (fun K => B.pv (V.field1 4 c1) fun v => K v h) fun v41 h =>
    B.gd h v38 false (fun K => B.pv (V.bin .gtr v41 (.int .i64 99)) fun v => K v h) fun v42 h =>
    B.pick v38 (.bool true) v42 fun v43 =>
    B.cond v43
    (Q (.bool false) h)
    (B.al c1 (B.pv (V.field1 6 c1) fun v45 =>
    B.pv (V.bin .eql v45 (.int .i64 (-1))) fun v46 =>
    B.al c1 (B.gd h v46 true (fun K => K .undef h) fun _ h =>
    B.gd h v46 true (fun K => B.pv (V.field1 7 c1) fun v => K v h) fun v49 h =>
    B.gd h v46 true (fun K => B.pv (V.bin .eql v49 (.str [])) fun v => K v h) fun v50 h =>
    B.pick v46 v50 (.bool false) fun v51 =>
    B.al c1 (B.pv (V.field1 6 c1) fun v53 =>
    B.pv (V.bin .geq v53 (.int .i64 0)) fun v54 =>
    B.al c1 (B.gd h v54 true (fun K => K .undef h) fun _ h =>
    B.gd h v54 true (fun K => B.pv (V.field1 6 c1) fun v => K v h) fun v57 h =>
    B.gd h v54 true (fun K => B.pv (V.bin .leq v57 (.int .i64 4000)) fun v => K v h) fun v58 h =>
    B.pick v54 v58 (.bool false) fun v59 =>
    B.al c1 (B.gd h v59 true (fun K => K .undef h) fun _ h =>
    B.gd h v59 true (fun K => B.pv (V.field1 7 c1) fun v => K v h) fun v62 h =>
    B.gd h v59 true (fun K => B.call C (N 61) [v62] h K) fun v63 h =>
    B.pick v59 v63 (.bool false) fun v64 =>
    B.al c1 (B.pv (V.field1 5 c1) fun v66 =>
    B.pv (V.bin .eql v66 (.int .u8 1)) fun v68 =>
    B.cond v68
    (B.gd h v51 false (fun K => K v64 h) fun v71 h =>
    B.pick v51 (.bool true) v71 fun v72 =>
    Q v72 h)
    (B.pv (V.bin .eql v66 (.int .u8 2)) fun v74 =>
    B.cond v74
    (Q v64 h)
    (B.pv (V.bin .eql v66 (.int .u8 3)) fun v77 =>
    B.cond v77
    (Q v51 h)
    (Q (.bool false) h))))))))))))))))))
/-- storeman/storemanref09.Right -/
@[simp] def ref09_Right.cps (C : CSem) (N : Nat → Nat) (v0 : AVal) (h : AHeap) (Q : AVal → AHeap → Prop) : Prop :=
  ref09_Right.k1 C N Q v0 h
def ref09_Right.Imp (C : CSem) (N : Nat → Nat) : Prop := ∀ (v0 : AVal) (h : AHeap) (Q : AVal → AHeap → Prop), ref09_Right.cps C N v0 h (dn Q) → C (N 180) [v0] h Q
@[simp] def ref09_Compare.k1 (C : CSem) (N : Nat → Nat) (Q : AVal → AHeap → Prop) (v0 v1 : AVal) (h : AHeap) : Prop :=
  B.pv (A.boxN 8 v0) fun c2 =>
    B.pv (A.boxN 8 v1) fun c3 =>
    B.al c2 (B.pv (V.field1 4 c2) fun v7 =>
    B.al c3 (B.pv (V.field1 4 c3) fun v9 =>
    B.pv (V.bin .lss v7 v9) fun v10 =>
    B.cond v10
    (Q (.int .i64 (-1)) h)
    (B.al c2 (B.pv (V.field1 4 c2) fun v13 =>
    B.al c3 (B.pv (V.field1 4 c3) fun v15 =>
    B.pv (V.bin .gtr v13 v15) fun v16 =>
    B.cond v16
    (Q (.int .i64 1) h)
    (B.al c2 (B.pv (V.field1 0 c2) fun v19 =>
    B.al c3 (B.pv (V.field1 0 c3) fun v21 =>
    B.pv (V.bin .lss v19 v21) fun v22 =>
    B.cond v22
    (Q (.int .i64 (-1)) h)
    (B.al c2 (B.pv (V.field1 0 c2) fun v25 =>
    B.al c3 (B.pv (V.field1 0 c3) fun v27 =>
    B.pv (V.bin .gtr v25 v27) fun v28 =>
    B.cond v28
    (Q (.int .i64 1) h)
    (Q (.int .i64 0) h))))))))))))
/-- storeman/storemanref09.Compare -/
@[simp] def ref09_Compare.cps (C : CSem) (N : Nat → Nat) (v0 v1 : AVal) (h : AHeap) (Q : AVal → AHeap → Prop) : Prop :=
  ref09_Compare.k1 C N Q v0 v1 h
def ref09_Compare.Imp (C : CSem) (N : Nat → Nat) : Prop := ∀ (v0 v1 : AVal) (h : AHeap) (Q : AVal → AHeap → Prop), ref09_Compare.cps C N v0 v1 h (dn Q) → C (N 182) [v0, v1] h Q
@[simp] def ref09_Open.k1 (C : CSem) (N : Nat → Nat) (Q : AVal → AHeap → Prop) (Y1 : List AVal → AHeap → Prop) (v0 v3 v4 v5 : AVal) (h : AHeap) : Prop :=
  B.pv (V.cutSl 8 v3 none (some v5)) fun v41 =>
    B.appW h 8 80 .sz v41 fun v42 h =>
    B.pv (V.idxS 8 v0 v4) fun v46 =>
    B.ldn h v46 8 fun v47 =>
    B.newO h (fillL [(0, some 8, v47)] (repL 1 [.int .i64 0, .str [], .int .i64 0, .int .i64 0, .int .i64 0, .int .u8 0, .int .i64 0, .str []])) fun i48 h =>
    B.appW h 8 80 v42 (.sl i48 0 0 1 8 1) fun v49 h =>
    B.pv (V.cutSl 8 v3 (some v5) none) fun v53 =>
    B.appW h 8 80 v49 v53 fun v54 h =>
    B.pv (V.bin .add v4 (.int .i64 1)) fun v12 =>
    Y1 [v54, v12] h
@[simp] def ref09_Open.k2 (C : CSem) (N : Nat → Nat) (Q : AVal → AHeap → Prop) (Y1 : List AVal → AHeap → Prop) (Y2 : List AVal → AHeap → Prop) (v0 v3 v4 v5 : AVal) (h : AHeap) : Prop :=
  B.pv (V.bin .gtr v5 (.int .i64 0)) fun v22 =>
    B.gd h v22 true (fun K => K v0 h) fun v24 h =>
    B.gd h v22 true (fun K => K v4 h) fun v25 h =>
    B.gd h v22 true (fun K => B.pv (V.idxS 8 v24 v25) fun v => K v h) fun v26 h =>
    B.gd h v22 true (fun K => B.ldn h v26 8 fun v => K v h) fun v27 h =>
    B.gd h v22 true (fun K => K v3 h) fun v28 h =>
    B.gd h v22 true (fun K => K v5 h) fun v29 h =>
    B.gd h v22 true (fun K => B.pv (V.bin .sub v29 (.int .i64 1)) fun v => K v h) fun v30 h =>
    B.gd h v22 true (fun K => B.pv (V.idxS 8 v28 v30) fun v => K v h) fun v31 h =>
    B.gd h v22 true (fun K => B.ldn h v31 8 fun v => K v h) fun v32 h =>
    B.gd h v22 true (fun K => B.call C (N 182) [v27, v32] h K) fun v33 h =>
    B.gd h v22 true (fun K => B.pv (V.bin .lss v33 (.int .i64 0)) fun v => K v h) fun v34 h =>
    B.pick v22 v34 (.bool false) fun v35 =>
    B.cond v35
    (B.pv (V.bin .sub v5 (.int .i64 1)) fun v37 =>
    Y2 [v37] h)
    (ref09_Open.k1 C N Q Y1 v0 v3 v4 v5 h)
@[simp] def ref09_Open.l3 (C : CSem) (N : Nat → Nat) (Q : AVal → AHeap → Prop) (Y1 : List AVal → AHeap → Prop) (v0 v3 v4 : AVal) : List AVal → AHeap → (List AVal → AHeap → Prop) → Prop
  | [v5], h, Y2 => ref09_Open.k2 C N Q Y1 Y2 v0 v3 v4 v5 h
  | _, _, _ => False
@[simp] def ref09_Open.k4 (C : CSem) (N : Nat → Nat) (Q : AVal → AHeap → Prop) (Y1 : List AVal → AHeap → Prop) (v0 v3 v4 : AVal) (h : AHeap) : Prop :=
  B.pv (V.idxS 8 v0 v4) fun v15 =>
    B.pv (V.fieldAddr 5 v15) fun v16 =>
    B.ld h v16 fun v17 =>
    B.pv (V.bin .neq v17 (.int .u8 1)) fun v18 =>
    B.cond v18
    (B.pv (V.bin .add v4 (.int .i64 1)) fun v12 =>
    Y1 [v3, v12] h)
    (B.pv (V.lenSl v3) fun v20 =>
    LoopR (ref09_Open.l3 C N Q Y1 v0 v3 v4) [v20] h)
@[simp] def ref09_Open.l5 (C : CSem) (N : Nat → Nat) (Q : AVal → AHeap → Prop) (v0 : AVal) : List AVal → AHeap → (List AVal → AHeap → Prop) → Prop
  | [v3, v4], h, Y1 => B.pv (V.lenSl v0) fun v9 =>
    B.pv (V.bin .lss v4 v9) fun v10 =>
    B.cond v10
    (ref09_Open.k4 C N Q Y1 v0 v3 v4 h)
    (Q v3 h)
  | _, _, _ => False
/-- storeman/storemanref09.Open -/
@[simp] def ref09_Open.cps (C : CSem) (N : Nat → Nat) (v0 : AVal) (h : AHeap) (Q : AVal → AHeap → Prop) : Prop :=
  LoopR (ref09_Open.l5 C N Q v0) [.nils, (.int .i64 0)] h
def ref09_Open.Imp (C : CSem) (N : Nat → Nat) : Prop := ∀ (v0 : AVal) (h : AHeap) (Q : AVal → AHeap → Prop), ref09_Open.cps C N v0 h (dn Q) → C (N 191) [v0] h Q
@[simp] def ref09_Ahead.k1 (C : CSem) (N : Nat → Nat) (Q : AVal → AHeap → Prop) (Y1 : List AVal → AHeap → Prop) (v1 v5 v6 : AVal) (h : AHeap) : Prop :=
  B.pv (V.lenSl v5) fun v11 =>
    B.pv (V.bin .lss v6 v11) fun v12 =>
    B.cond v12
    (B.pv (V.idxS 8 v5 v6) fun v17 =>
    B.pv (V.fieldAddr 0 v17) fun v18 =>
    B.ld h v18 fun v19 =>
    B.pv (V.bin .eql v19 v1) fun v21 =>
    B.cond v21
    (B.pv (V.cutSl 8 v5 none (some v6)) fun v25 =>
    B.appW h 8 80 .sz v25 fun v26 h =>
    Q v26 h)
    (B.pv (V.bin .add v6 (.int .i64 1)) fun v14 =>
    Y1 [v14] h))
    (Q .nils h)
@[simp] def ref09_Ahead.l2 (C : CSem) (N : Nat → Nat) (Q : AVal → AHeap → Prop) (v1 v5 : AVal) : List AVal → AHeap → (List AVal → AHeap → Prop) → Prop
  | [v6], h, Y1 => ref09_Ahead.k1 C N Q Y1 v1 v5 v6 h
  | _, _, _ => False
/-- storeman/storemanref09.Ahead -/
@[simp] def ref09_Ahead.cps (C : CSem) (N : Nat → Nat) (v0 v1 : AVal) (h : AHeap) (Q : AVal → AHeap → Prop) : Prop :=
  B.call C (N 191) [v0] h fun v8 h =>
    LoopR (ref09_Ahead.l2 C N Q v1 v8) [(.int .i64 0)] h
def ref09_Ahead.Imp (C : CSem) (N : Nat → Nat) : Prop := ∀ (v0 v1 : AVal) (h : AHeap) (Q : AVal → AHeap → Prop), ref09_Ahead.cps C N v0 v1 h (dn Q) → C (N 192) [v0, v1] h Q
end Go.Ab

/- What is told: residuals: what each function does in the abstract memory, printed by a program of mine. Definitions alone. -/
set_option linter.unusedVariables false
namespace Go.Ab
@[simp] def slices_CloneG.cps (C : CSem) (E : ElOps) (v0 : AVal) (h : AHeap) (Q : AVal → AHeap → Prop) : Prop :=
  B.pv (V.eqSl .eql v0 .nils) fun v4 =>
    B.cond v4
    (Q .nils h)
    (B.appW h E.es E.bytes .sz v0 fun v7 h =>
    Q v7 h)
@[simp] def slices_SortStableFuncG.cps (C : CSem) (E : ElOps) (f1 : Nat) (v0 v1 : AVal) (h : AHeap) (Q : AVal → AHeap → Prop) : Prop :=
  B.pv (V.lenSl v0) fun v6 =>
    B.call C f1 [v0, v6, v1] h fun v8 h =>
    Q (.tup []) h
@[simp] def slices_stableCmpFuncG.k1 (C : CSem) (E : ElOps) (f1 f2 : Nat) (Q : AVal → AHeap → Prop) (Y1 : List AVal → AHeap → Prop) (v0 v1 v2 v6 v7 : AVal) (h : AHeap) : Prop :=
  B.pv (V.bin .add v7 v6) fun v51 =>
    B.pv (V.bin .lss v51 v1) fun v54 =>
    B.cond v54
    (B.call C f1 [v0, v7, v51, v1, v2] h fun v60 h =>
    B.pv (V.bin .mul v6 (.int .i64 2)) fun v62 =>
    Y1 [v62] h)
    (B.pv (V.bin .mul v6 (.int .i64 2)) fun v62 =>
    Y1 [v62] h)
@[simp] def slices_stableCmpFuncG.k2 (C : CSem) (E : ElOps) (f1 f2 : Nat) (Q : AVal → AHeap → Prop) (Y1 : List AVal → AHeap → Prop) (Y2 : List AVal → AHeap → Prop) (v0 v1 v2 v6 v7 v8 : AVal) (h : AHeap) : Prop :=
  B.pv (V.bin .leq v8 v1) fun v35 =>
    B.cond v35
    (B.pv (V.bin .add v7 v6) fun v40 =>
    B.call C f1 [v0, v7, v40, v8, v2] h fun v43 h =>
    B.pv (V.bin .mul (.int .i64 2) v6) fun v47 =>
    B.pv (V.bin .add v8 v47) fun v48 =>
    Y2 [v8, v48] h)
    (slices_stableCmpFuncG.k1 C E f1 f2 Q Y1 v0 v1 v2 v6 v7 h)
@[simp] def slices_stableCmpFuncG.l3 (C : CSem) (E : ElOps) (f1 f2 : Nat) (Q : AVal → AHeap → Prop) (Y1 : List AVal → AHeap → Prop) (v0 v1 v2 v6 : AVal) : List AVal → AHeap → (List AVal → AHeap → Prop) → Prop
  | [v7, v8], h, Y2 => slices_stableCmpFuncG.k2 C E f1 f2 Q Y1 Y2 v0 v1 v2 v6 v7 v8 h
  | _, _, _ => False
@[simp] def slices_stableCmpFuncG.k4 (C : CSem) (E : ElOps) (f1 f2 : Nat) (Q : AVal → AHeap → Prop) (Y1 : List AVal → AHeap → Prop) (v0 v1 v2 v6 : AVal) (h : AHeap) : Prop :=
  B.pv (V.bin .lss v6 v1) fun v30 =>
    B.cond v30
    (B.pv (V.bin .mul (.int .i64 2) v6) fun v32 =>
    LoopR (slices_stableCmpFuncG.l3 C E f1 f2 Q Y1 v0 v1 v2 v6) [(.int .i64 0), v32] h)
    (Q (.tup []) h)
@[simp] def slices_stableCmpFuncG.l5 (C : CSem) (E : ElOps) (f1 f2 : Nat) (Q : AVal → AHeap → Prop) (v0 v1 v2 : AVal) : List AVal → AHeap → (List AVal → AHeap → Prop) → Prop
  | [v6], h, Y1 => slices_stableCmpFuncG.k4 C E f1 f2 Q Y1 v0 v1 v2 v6 h
  | _, _, _ => False
@[simp] def slices_stableCmpFuncG.k6 (C : CSem) (E : ElOps) (f1 f2 : Nat) (Q : AVal → AHeap → Prop) (Y3 : List AVal → AHeap → Prop) (v0 v1 v2 v6 v7 v8 : AVal) (h : AHeap) : Prop :=
  B.pv (V.bin .leq v8 v1) fun v13 =>
    B.cond v13
    (B.call C f2 [v0, v7, v8, v2] h fun v18 h =>
    B.pv (V.bin .add v8 v6) fun v22 =>
    Y3 [v8, v22] h)
    (B.call C f2 [v0, v7, v1, v2] h fun v27 h =>
    LoopR (slices_stableCmpFuncG.l5 C E f1 f2 Q v0 v1 v2) [v6] h)
@[simp] def slices_stableCmpFuncG.l7 (C : CSem) (E : ElOps) (f1 f2 : Nat) (Q : AVal → AHeap → Prop) (v0 v1 v2 v6 : AVal) : List AVal → AHeap → (List AVal → AHeap → Prop) → Prop
  | [v7, v8], h, Y3 => slices_stableCmpFuncG.k6 C E f1 f2 Q Y3 v0 v1 v2 v6 v7 v8 h
  | _, _, _ => False
@[simp] def slices_stableCmpFuncG.cps (C : CSem) (E : ElOps) (f1 f2 : Nat) (v0 v1 v2 : AVal) (h : AHeap) (Q : AVal → AHeap → Prop) : Prop :=
  LoopR (slices_stableCmpFuncG.l7 C E f1 f2 Q v0 v1 v2 (.int .i64 20)) [(.int .i64 0), (.int .i64 20)] h
@[simp] def slices_insertionSortCmpFuncG.k1 (C : CSem) (E : ElOps) (Q : AVal → AHeap → Prop) (Y1 : List AVal → AHeap → Prop) (Y2 : List AVal → AHeap → Prop) (v0 v1 v2 v3 v8 v9 : AVal) (h : AHeap) : Prop :=
  B.pv (V.bin .gtr v9 v1) fun v20 =>
    B.gd h v20 true (fun K => K v3 h) fun v22 h =>
    B.gd h v20 true (fun K => K v0 h) fun v23 h =>
    B.gd h v20 true (fun K => K v9 h) fun v24 h =>
    B.gd h v20 true (fun K => B.pv (V.idxS E.es v23 v24) fun v => K v h) fun v25 h =>
    B.gd h v20 true (fun K => E.ld h v25 fun v => K v h) fun v26 h =>
    B.gd h v20 true (fun K => K v0 h) fun v27 h =>
    B.gd h v20 true (fun K => K v9 h) fun v28 h =>
    B.gd h v20 true (fun K => B.pv (V.bin .sub v28 (.int .i64 1)) fun v => K v h) fun v29 h =>
    B.gd h v20 true (fun K => B.pv (V.idxS E.es v27 v29) fun v => K v h) fun v30 h =>
    B.gd h v20 true (fun K => E.ld h v30 fun v => K v h) fun v31 h =>
    B.gd h v20 true (fun K => B.callv h C v22 [v26, v31] K) fun v32 h =>
    B.gd h v20 true (fun K => B.pv (V.bin .lss v32 (.int .i64 0)) fun v => K v h) fun v33 h =>
    B.pick v20 v33 (.bool false) fun v34 =>
    B.cond v34
    (B.pv (V.bin .sub v9 (.int .i64 1)) fun v41 =>
    B.pv (V.bin .sub v9 (.int .i64 1)) fun v44 =>
    B.pv (V.idxS E.es v0 v44) fun v45 =>
    E.ld h v45 fun v46 =>
    B.pv (V.idxS E.es v0 v9) fun v49 =>
    E.ld h v49 fun v50 =>
    B.pv (V.idxS E.es v0 v9) fun v51 =>
    E.st h v51 v46 fun h =>
    B.pv (V.idxS E.es v0 v41) fun v52 =>
    E.st h v52 v50 fun h =>
    B.pv (V.bin .sub v9 (.int .i64 1)) fun v36 =>
    Y2 [v36] h)
    (B.pv (V.bin .add v8 (.int .i64 1)) fun v16 =>
    Y1 [v16] h)
@[simp] def slices_insertionSortCmpFuncG.l2 (C : CSem) (E : ElOps) (Q : AVal → AHeap → Prop) (Y1 : List AVal → AHeap → Prop) (v0 v1 v2 v3 v8 : AVal) : List AVal → AHeap → (List AVal → AHeap → Prop) → Prop
  | [v9], h, Y2 => slices_insertionSortCmpFuncG.k1 C E Q Y1 Y2 v0 v1 v2 v3 v8 v9 h
  | _, _, _ => False
@[simp] def slices_insertionSortCmpFuncG.l3 (C : CSem) (E : ElOps) (Q : AVal → AHeap → Prop) (v0 v1 v2 v3 : AVal) : List AVal → AHeap → (List AVal → AHeap → Prop) → Prop
  | [v8], h, Y1 => B.pv (V.bin .lss v8 v2) fun v14 =>
    B.cond v14
    (LoopR (slices_insertionSortCmpFuncG.l2 C E Q Y1 v0 v1 v2 v3 v8) [v8] h)
    (Q (.tup []) h)
  | _, _, _ => False
@[simp] def slices_insertionSortCmpFuncG.cps (C : CSem) (E : ElOps) (v0 v1 v2 v3 : AVal) (h : AHeap) (Q : AVal → AHeap → Prop) : Prop :=
  B.pv (V.bin .add v1 (.int .i64 1)) fun v11 =>
    LoopR (slices_insertionSortCmpFuncG.l3 C E Q v0 v1 v2 v3) [v11] h
@[simp] def slices_symMergeCmpFuncG.k1 (C : CSem) (E : ElOps) (f1 f2 : Nat) (Q : AVal → AHeap → Prop) (v0 v3 v4 v18 v24 : AVal) (h : AHeap) : Prop :=
  B.pv (V.bin .lss v18 v24) fun v208 =>
    B.gd h v208 true (fun K => K v24 h) fun v210 h =>
    B.gd h v208 true (fun K => K v3 h) fun v211 h =>
    B.gd h v208 true (fun K => B.pv (V.bin .lss v210 v211) fun v => K v h) fun v212 h =>
    B.pick v208 v212 (.bool false) fun v213 =>
    B.cond v213
    (B.call C f1 [v0, v18, v24, v3, v4] h fun v219 h =>
    Q (.tup []) h)
    (Q (.tup []) h)
@[simp] def slices_symMergeCmpFuncG.k2 (C : CSem) (E : ElOps) (f1 f2 : Nat) (Q : AVal → AHeap → Prop) (v0 v1 v3 v4 v18 v20 v24 : AVal) (h : AHeap) : Prop :=
  B.pv (V.bin .lss v1 v20) fun v194 =>
    B.gd h v194 true (fun K => K v20 h) fun v196 h =>
    B.gd h v194 true (fun K => K v18 h) fun v197 h =>
    B.gd h v194 true (fun K => B.pv (V.bin .lss v196 v197) fun v => K v h) fun v198 h =>
    B.pick v194 v198 (.bool false) fun v199 =>
    B.cond v199
    (B.call C f1 [v0, v1, v20, v18, v4] h fun v205 h =>
    slices_symMergeCmpFuncG.k1 C E f1 f2 Q v0 v3 v4 v18 v24 h)
    (slices_symMergeCmpFuncG.k1 C E f1 f2 Q v0 v3 v4 v18 v24 h)
@[simp] def slices_symMergeCmpFuncG.k3 (C : CSem) (E : ElOps) (f1 f2 : Nat) (Q : AVal → AHeap → Prop) (v0 v1 v2 v3 v4 v18 v20 v24 : AVal) (h : AHeap) : Prop :=
  B.pv (V.bin .lss v20 v2) fun v180 =>
    B.gd h v180 true (fun K => K v2 h) fun v182 h =>
    B.gd h v180 true (fun K => K v24 h) fun v183 h =>
    B.gd h v180 true (fun K => B.pv (V.bin .lss v182 v183) fun v => K v h) fun v184 h =>
    B.pick v180 v184 (.bool false) fun v185 =>
    B.cond v185
    (B.call C f2 [v0, v20, v2, v24, v4] h fun v191 h =>
    slices_symMergeCmpFuncG.k2 C E f1 f2 Q v0 v1 v3 v4 v18 v20 v24 h)
    (slices_symMergeCmpFuncG.k2 C E f1 f2 Q v0 v1 v3 v4 v18 v20 v24 h)
@[simp] def slices_symMergeCmpFuncG.k4 (C : CSem) (E : ElOps) (f1 f2 : Nat) (Q : AVal → AHeap → Prop) (Y1 : List AVal → AHeap → Prop) (v0 v1 v2 v3 v4 v18 v19 v20 v21 v22 : AVal) (h : AHeap) : Prop :=
  B.pv (V.bin .lss v20 v21) fun v151 =>
    B.cond v151
    (B.pv (V.bin .add v20 v21) fun v154 =>
    B.pv (V.toInt .u64 v154) fun v155 =>
    B.pv (V.bin .shr v155 (.int .u64 1)) fun v156 =>
    B.pv (V.toInt .i64 v156) fun v157 =>
    B.pv (V.bin .sub v22 v157) fun v162 =>
    B.pv (V.idxS E.es v0 v162) fun v163 =>
    E.ld h v163 fun v164 =>
    B.pv (V.idxS E.es v0 v157) fun v167 =>
    E.ld h v167 fun v168 =>
    B.callv h C v4 [v164, v168] fun v169 h =>
    B.pv (V.bin .lss v169 (.int .i64 0)) fun v170 =>
    B.pv (V.un .not v170) fun v171 =>
    B.cond v171
    (B.pv (V.bin .add v157 (.int .i64 1)) fun v173 =>
    Y1 [v173, v21] h)
    (Y1 [v20, v157] h))
    (B.pv (V.bin .sub v19 v20) fun v177 =>
    slices_symMergeCmpFuncG.k3 C E f1 f2 Q v0 v1 v2 v3 v4 v18 v20 v177 h)
@[simp] def slices_symMergeCmpFuncG.l5 (C : CSem) (E : ElOps) (f1 f2 : Nat) (Q : AVal → AHeap → Prop) (v0 v1 v2 v3 v4 v18 v19 v22 : AVal) : List AVal → AHeap → (List AVal → AHeap → Prop) → Prop
  | [v20, v21], h, Y1 => slices_symMergeCmpFuncG.k4 C E f1 f2 Q Y1 v0 v1 v2 v3 v4 v18 v19 v20 v21 v22 h
  | _, _, _ => False
@[simp] def slices_symMergeCmpFuncG.k6 (C : CSem) (E : ElOps) (f1 f2 : Nat) (Q : AVal → AHeap → Prop) (v0 v1 v2 v3 v4 v18 v19 : AVal) (h : AHeap) : Prop :=
  B.pv (V.bin .gtr v2 v18) fun v140 =>
    B.cond v140
    (B.pv (V.bin .sub v19 v3) fun v143 =>
    B.pv (V.bin .sub v19 (.int .i64 1)) fun v148 =>
    LoopR (slices_symMergeCmpFuncG.l5 C E f1 f2 Q v0 v1 v2 v3 v4 v18 v19 v148) [v143, v18] h)
    (B.pv (V.bin .sub v19 (.int .i64 1)) fun v148 =>
    LoopR (slices_symMergeCmpFuncG.l5 C E f1 f2 Q v0 v1 v2 v3 v4 v18 v19 v148) [v1, v2] h)
@[simp] def slices_symMergeCmpFuncG.k7 (C : CSem) (E : ElOps) (f1 f2 : Nat) (Q : AVal → AHeap → Prop) (v0 v1 v2 v3 v4 : AVal) (h : AHeap) : Prop :=
  B.pv (V.bin .add v1 v3) fun v131 =>
    B.pv (V.toInt .u64 v131) fun v132 =>
    B.pv (V.bin .shr v132 (.int .u64 1)) fun v133 =>
    B.pv (V.toInt .i64 v133) fun v134 =>
    B.pv (V.bin .add v134 v2) fun v137 =>
    slices_symMergeCmpFuncG.k6 C E f1 f2 Q v0 v1 v2 v3 v4 v134 v137 h
@[simp] def slices_symMergeCmpFuncG.k8 (C : CSem) (E : ElOps) (f1 f2 : Nat) (Q : AVal → AHeap → Prop) (Y2 : List AVal → AHeap → Prop) (v0 v14 v17 : AVal) (h : AHeap) : Prop :=
  B.pv (V.bin .gtr v17 v14) fun v110 =>
    B.cond v110
    (B.pv (V.bin .sub v17 (.int .i64 1)) fun v117 =>
    B.pv (V.bin .sub v17 (.int .i64 1)) fun v120 =>
    B.pv (V.idxS E.es v0 v120) fun v121 =>
    E.ld h v121 fun v122 =>
    B.pv (V.idxS E.es v0 v17) fun v125 =>
    E.ld h v125 fun v126 =>
    B.pv (V.idxS E.es v0 v17) fun v127 =>
    E.st h v127 v122 fun h =>
    B.pv (V.idxS E.es v0 v117) fun v128 =>
    E.st h v128 v126 fun h =>
    B.pv (V.bin .sub v17 (.int .i64 1)) fun v112 =>
    Y2 [v112] h)
    (Q (.tup []) h)
@[simp] def slices_symMergeCmpFuncG.l9 (C : CSem) (E : ElOps) (f1 f2 : Nat) (Q : AVal → AHeap → Prop) (v0 v14 : AVal) : List AVal → AHeap → (List AVal → AHeap → Prop) → Prop
  | [v17], h, Y2 => slices_symMergeCmpFuncG.k8 C E f1 f2 Q Y2 v0 v14 v17 h
  | _, _, _ => False
@[simp] def slices_symMergeCmpFuncG.k10 (C : CSem) (E : ElOps) (f1 f2 : Nat) (Q : AVal → AHeap → Prop) (Y3 : List AVal → AHeap → Prop) (v0 v2 v4 v14 v15 : AVal) (h : AHeap) : Prop :=
  B.pv (V.bin .lss v14 v15) fun v85 =>
    B.cond v85
    (B.pv (V.bin .add v14 v15) fun v88 =>
    B.pv (V.toInt .u64 v88) fun v89 =>
    B.pv (V.bin .shr v89 (.int .u64 1)) fun v90 =>
    B.pv (V.toInt .i64 v90) fun v91 =>
    B.pv (V.idxS E.es v0 v2) fun v95 =>
    E.ld h v95 fun v96 =>
    B.pv (V.idxS E.es v0 v91) fun v99 =>
    E.ld h v99 fun v100 =>
    B.callv h C v4 [v96, v100] fun v101 h =>
    B.pv (V.bin .lss v101 (.int .i64 0)) fun v102 =>
    B.pv (V.un .not v102) fun v103 =>
    B.cond v103
    (B.pv (V.bin .add v91 (.int .i64 1)) fun v105 =>
    Y3 [v105, v15] h)
    (Y3 [v14, v91] h))
    (LoopR (slices_symMergeCmpFuncG.l9 C E f1 f2 Q v0 v14) [v2] h)
@[simp] def slices_symMergeCmpFuncG.l11 (C : CSem) (E : ElOps) (f1 f2 : Nat) (Q : AVal → AHeap → Prop) (v0 v2 v4 : AVal) : List AVal → AHeap → (List AVal → AHeap → Prop) → Prop
  | [v14, v15], h, Y3 => slices_symMergeCmpFuncG.k10 C E f1 f2 Q Y3 v0 v2 v4 v14 v15 h
  | _, _, _ => False
@[simp] def slices_symMergeCmpFuncG.k12 (C : CSem) (E : ElOps) (f1 f2 : Nat) (Q : AVal → AHeap → Prop) (v0 v1 v2 v3 v4 : AVal) (h : AHeap) : Prop :=
  B.pv (V.bin .sub v3 v2) fun v79 =>
    B.pv (V.bin .eql v79 (.int .i64 1)) fun v80 =>
    B.cond v80 (LoopR (slices_symMergeCmpFuncG.l11 C E f1 f2 Q v0 v2 v4) [v1, v2] h) (slices_symMergeCmpFuncG.k7 C E f1 f2 Q v0 v1 v2 v3 v4 h)
@[simp] def slices_symMergeCmpFuncG.k13 (C : CSem) (E : ElOps) (f1 f2 : Nat) (Q : AVal → AHeap → Prop) (Y4 : List AVal → AHeap → Prop) (v0 v10 v13 : AVal) (h : AHeap) : Prop :=
  B.pv (V.bin .sub v10 (.int .i64 1)) fun v57 =>
    B.pv (V.bin .lss v13 v57) fun v58 =>
    B.cond v58
    (B.pv (V.bin .add v13 (.int .i64 1)) fun v65 =>
    B.pv (V.bin .add v13 (.int .i64 1)) fun v68 =>
    B.pv (V.idxS E.es v0 v68) fun v69 =>
    E.ld h v69 fun v70 =>
    B.pv (V.idxS E.es v0 v13) fun v73 =>
    E.ld h v73 fun v74 =>
    B.pv (V.idxS E.es v0 v13) fun v75 =>
    E.st h v75 v70 fun h =>
    B.pv (V.idxS E.es v0 v65) fun v76 =>
    E.st h v76 v74 fun h =>
    B.pv (V.bin .add v13 (.int .i64 1)) fun v60 =>
    Y4 [v60] h)
    (Q (.tup []) h)
@[simp] def slices_symMergeCmpFuncG.l14 (C : CSem) (E : ElOps) (f1 f2 : Nat) (Q : AVal → AHeap → Prop) (v0 v10 : AVal) : List AVal → AHeap → (List AVal → AHeap → Prop) → Prop
  | [v13], h, Y4 => slices_symMergeCmpFuncG.k13 C E f1 f2 Q Y4 v0 v10 v13 h
  | _, _, _ => False
@[simp] def slices_symMergeCmpFuncG.k15 (C : CSem) (E : ElOps) (f1 f2 : Nat) (Q : AVal → AHeap → Prop) (Y5 : List AVal → AHeap → Prop) (v0 v1 v4 v10 v11 : AVal) (h : AHeap) : Prop :=
  B.pv (V.bin .lss v10 v11) fun v33 =>
    B.cond v33
    (B.pv (V.bin .add v10 v11) fun v36 =>
    B.pv (V.toInt .u64 v36) fun v37 =>
    B.pv (V.bin .shr v37 (.int .u64 1)) fun v38 =>
    B.pv (V.toInt .i64 v38) fun v39 =>
    B.pv (V.idxS E.es v0 v39) fun v43 =>
    E.ld h v43 fun v44 =>
    B.pv (V.idxS E.es v0 v1) fun v47 =>
    E.ld h v47 fun v48 =>
    B.callv h C v4 [v44, v48] fun v49 h =>
    B.pv (V.bin .lss v49 (.int .i64 0)) fun v50 =>
    B.cond v50
    (B.pv (V.bin .add v39 (.int .i64 1)) fun v52 =>
    Y5 [v52, v11] h)
    (Y5 [v10, v39] h))
    (LoopR (slices_symMergeCmpFuncG.l14 C E f1 f2 Q v0 v10) [v1] h)
@[simp] def slices_symMergeCmpFuncG.l16 (C : CSem) (E : ElOps) (f1 f2 : Nat) (Q : AVal → AHeap → Prop) (v0 v1 v4 : AVal) : List AVal → AHeap → (List AVal → AHeap → Prop) → Prop
  | [v10, v11], h, Y5 => slices_symMergeCmpFuncG.k15 C E f1 f2 Q Y5 v0 v1 v4 v10 v11 h
  | _, _, _ => False
@[simp] def slices_symMergeCmpFuncG.k17 (C : CSem) (E : ElOps) (f1 f2 : Nat) (Q : AVal → AHeap → Prop) (v0 v1 v2 v3 v4 : AVal) (h : AHeap) : Prop :=
  B.pv (V.bin .sub v2 v1) fun v27 =>
    B.pv (V.bin .eql v27 (.int .i64 1)) fun v28 =>
    B.cond v28 (LoopR (slices_symMergeCmpFuncG.l16 C E f1 f2 Q v0 v1 v4) [v2, v3] h) (slices_symMergeCmpFuncG.k12 C E f1 f2 Q v0 v1 v2 v3 v4 h)
@[simp] def slices_symMergeCmpFuncG.cps (C : CSem) (E : ElOps) (f1 f2 : Nat) (v0 v1 v2 v3 v4 : AVal) (h : AHeap) (Q : AVal → AHeap → Prop) : Prop :=
  slices_symMergeCmpFuncG.k17 C E f1 f2 Q v0 v1 v2 v3 v4 h
@[simp] def slices_rotateCmpFuncG.k1 (C : CSem) (E : ElOps) (f1 : Nat) (Q : AVal → AHeap → Prop) (Y1 : List AVal → AHeap → Prop) (v0 v2 v4 v10 v11 : AVal) (h : AHeap) : Prop :=
  B.pv (V.bin .neq v10 v11) fun v20 =>
    B.cond v20
    (B.pv (V.bin .gtr v10 v11) fun v23 =>
    B.cond v23
    (B.pv (V.bin .sub v2 v10) fun v27 =>
    B.call C f1 [v0, v27, v2, v11, v4] h fun v31 h =>
    B.pv (V.bin .sub v10 v11) fun v34 =>
    Y1 [v34, v11] h)
    (B.pv (V.bin .sub v2 v10) fun v38 =>
    B.pv (V.bin .add v2 v11) fun v41 =>
    B.pv (V.bin .sub v41 v10) fun v43 =>
    B.call C f1 [v0, v38, v43, v10, v4] h fun v46 h =>
    B.pv (V.bin .sub v11 v10) fun v49 =>
    Y1 [v10, v49] h))
    (B.pv (V.bin .sub v2 v10) fun v53 =>
    B.call C f1 [v0, v53, v2, v10, v4] h fun v57 h =>
    Q (.tup []) h)
@[simp] def slices_rotateCmpFuncG.l2 (C : CSem) (E : ElOps) (f1 : Nat) (Q : AVal → AHeap → Prop) (v0 v2 v4 : AVal) : List AVal → AHeap → (List AVal → AHeap → Prop) → Prop
  | [v10, v11], h, Y1 => slices_rotateCmpFuncG.k1 C E f1 Q Y1 v0 v2 v4 v10 v11 h
  | _, _, _ => False
@[simp] def slices_rotateCmpFuncG.cps (C : CSem) (E : ElOps) (f1 : Nat) (v0 v1 v2 v3 v4 : AVal) (h : AHeap) (Q : AVal → AHeap → Prop) : Prop :=
  B.pv (V.bin .sub v2 v1) fun v14 =>
    B.pv (V.bin .sub v3 v2) fun v17 =>
    LoopR (slices_rotateCmpFuncG.l2 C E f1 Q v0 v2 v4) [v14, v17] h
@[simp] def slices_swapRangeCmpFuncG.k1 (C : CSem) (E : ElOps) (Q : AVal → AHeap → Prop) (Y1 : List AVal → AHeap → Prop) (v0 v1 v2 v3 v10 : AVal) (h : AHeap) : Prop :=
  B.pv (V.bin .lss v10 v3) fun v13 =>
    B.cond v13
    (B.pv (V.bin .add v1 v10) fun v19 =>
    B.pv (V.bin .add v2 v10) fun v23 =>
    B.pv (V.bin .add v2 v10) fun v27 =>
    B.pv (V.idxS E.es v0 v27) fun v28 =>
    E.ld h v28 fun v29 =>
    B.pv (V.bin .add v1 v10) fun v33 =>
    B.pv (V.idxS E.es v0 v33) fun v34 =>
    E.ld h v34 fun v35 =>
    B.pv (V.idxS E.es v0 v19) fun v36 =>
    E.st h v36 v29 fun h =>
    B.pv (V.idxS E.es v0 v23) fun v37 =>
    E.st h v37 v35 fun h =>
    B.pv (V.bin .add v10 (.int .i64 1)) fun v15 =>
    Y1 [v15] h)
    (Q (.tup []) h)
@[simp] def slices_swapRangeCmpFuncG.l2 (C : CSem) (E : ElOps) (Q : AVal → AHeap → Prop) (v0 v1 v2 v3 : AVal) : List AVal → AHeap → (List AVal → AHeap → Prop) → Prop
  | [v10], h, Y1 => slices_swapRangeCmpFuncG.k1 C E Q Y1 v0 v1 v2 v3 v10 h
  | _, _, _ => False
@[simp] def slices_swapRangeCmpFuncG.cps (C : CSem) (E : ElOps) (v0 v1 v2 v3 v4 : AVal) (h : AHeap) (Q : AVal → AHeap → Prop) : Prop :=
  LoopR (slices_swapRangeCmpFuncG.l2 C E Q v0 v1 v2 v3) [(.int .i64 0)] h
@[simp] def slices_IndexFuncG.k1 (C : CSem) (E : ElOps) (Q : AVal → AHeap → Prop) (Y1 : List AVal → AHeap → Prop) (v0 v1 v7 v8 : AVal) (h : AHeap) : Prop :=
  B.pv (V.bin .lss v8 v7) fun v9 =>
    B.cond v9
    (B.pv (V.idxS E.es v0 v8) fun v14 =>
    E.ld h v14 fun v15 =>
    B.callv h C v1 [v15] fun v16 h =>
    B.cond v16
    (Q v8 h)
    (B.pv (V.bin .add v8 (.int .i64 1)) fun v18 =>
    Y1 [v18] h))
    (Q (.int .i64 (-1)) h)
@[simp] def slices_IndexFuncG.l2 (C : CSem) (E : ElOps) (Q : AVal → AHeap → Prop) (v0 v1 v7 : AVal) : List AVal → AHeap → (List AVal → AHeap → Prop) → Prop
  | [v8], h, Y1 => slices_IndexFuncG.k1 C E Q Y1 v0 v1 v7 v8 h
  | _, _, _ => False
@[simp] def slices_IndexFuncG.cps (C : CSem) (E : ElOps) (v0 v1 : AVal) (h : AHeap) (Q : AVal → AHeap → Prop) : Prop :=
  B.pv (V.lenSl v0) fun v7 =>
    LoopR (slices_IndexFuncG.l2 C E Q v0 v1 v7) [(.int .i64 0)] h
end Go.Ab

/- What is told: residuals: what each function does in the abstract memory, printed by a program of mine. Definitions alone. -/
set_option linter.unusedVariables false
namespace Go.Ab
/-- slices.Clone[[]storeman/api.Line,storeman/api.Line] -/
def slices_Clone_api_Line_api_Line.cps (C : CSem) (N : Nat → Nat) (v0 : AVal) (h : AHeap) (Q : AVal → AHeap → Prop) : Prop :=
  slices_CloneG.cps C (opsF 8 80 [.int .i64 0, .str [], .int .i64 0, .int .i64 0, .int .i64 0, .int .u8 0, .int .i64 0, .str []] 0 []) v0 h Q
def slices_Clone_api_Line_api_Line.Imp (C : CSem) (N : Nat → Nat) : Prop := ∀ (v0 : AVal) (h : AHeap) (Q : AVal → AHeap → Prop), slices_Clone_api_Line_api_Line.cps C N v0 h (dn Q) → C (N 201) [v0] h Q
@[simp] def slices_DeleteFunc_api_Line_api_Line.k1 (C : CSem) (N : Nat → Nat) (Q : AVal → AHeap → Prop) (v0 v5 : AVal) (h : AHeap) : Prop :=
  B.pv (V.cutSl 8 v0 (some v5) none) fun v38 =>
    B.clr h [.int .i64 0, .str [], .int .i64 0, .int .i64 0, .int .i64 0, .int .u8 0, .int .i64 0, .str []] v38 fun _ h =>
    B.pv (V.cutSl 8 v0 none (some v5)) fun v41 =>
    Q v41 h
@[simp] def slices_DeleteFunc_api_Line_api_Line.k2 (C : CSem) (N : Nat → Nat) (Q : AVal → AHeap → Prop) (Y1 : List AVal → AHeap → Prop) (v0 v1 v5 v6 : AVal) (h : AHeap) : Prop :=
  B.pv (V.lenSl v0) fun v18 =>
    B.pv (V.bin .lss v6 v18) fun v19 =>
    B.cond v19
    (B.pv (V.idxS 8 v0 v6) fun v24 =>
    B.ldn h v24 8 fun v25 =>
    B.pv (V.setN 0 8 v25 (.agg [.int .i64 0, .str [], .int .i64 0, .int .i64 0, .int .i64 0, .int .u8 0, .int .i64 0, .str []])) fun c7 =>
    B.pv (V.fieldN 0 8 c7) fun v27 =>
    B.callv h C v1 [v27] fun v28 h =>
    B.pv (V.un .not v28) fun v29 =>
    B.cond v29
    (B.pv (V.fieldN 0 8 c7) fun v32 =>
    B.pv (V.idxS 8 v0 v5) fun v33 =>
    B.stn h v33 8 v32 fun h =>
    B.pv (V.bin .add v5 (.int .i64 1)) fun v35 =>
    B.pv (V.bin .add v6 (.int .i64 1)) fun v21 =>
    Y1 [v35, v21] h)
    (B.pv (V.bin .add v6 (.int .i64 1)) fun v21 =>
    Y1 [v5, v21] h))
    (slices_DeleteFunc_api_Line_api_Line.k1 C N Q v0 v5 h)
@[simp] def slices_DeleteFunc_api_Line_api_Line.l3 (C : CSem) (N : Nat → Nat) (Q : AVal → AHeap → Prop) (v0 v1 : AVal) : List AVal → AHeap → (List AVal → AHeap → Prop) → Prop
  | [v5, v6], h, Y1 => slices_DeleteFunc_api_Line_api_Line.k2 C N Q Y1 v0 v1 v5 v6 h
  | _, _, _ => False
@[simp] def slices_DeleteFunc_api_Line_api_Line.k4 (C : CSem) (N : Nat → Nat) (Q : AVal → AHeap → Prop) (v0 v1 v5 : AVal) (h : AHeap) : Prop :=
  B.pv (V.bin .eql v5 (.int .i64 (-1))) fun v12 =>
    B.cond v12
    (Q v0 h)
    (B.pv (V.bin .add v5 (.int .i64 1)) fun v15 =>
    LoopR (slices_DeleteFunc_api_Line_api_Line.l3 C N Q v0 v1) [v5, v15] h)
/-- slices.DeleteFunc[[]storeman/api.Line,storeman/api.Line] -/
@[simp] def slices_DeleteFunc_api_Line_api_Line.cps (C : CSem) (N : Nat → Nat) (v0 v1 : AVal) (h : AHeap) (Q : AVal → AHeap → Prop) : Prop :=
  B.call C (N 206) [v0, v1] h fun v10 h =>
    slices_DeleteFunc_api_Line_api_Line.k4 C N Q v0 v1 v10 h
def slices_DeleteFunc_api_Line_api_Line.Imp (C : CSem) (N : Nat → Nat) : Prop := ∀ (v0 v1 : AVal) (h : AHeap) (Q : AVal → AHeap → Prop), slices_DeleteFunc_api_Line_api_Line.cps C N v0 v1 h (dn Q) → C (N 203) [v0, v1] h Q
/-- slices.SortStableFunc[[]storeman/api.Line,storeman/api.Line] -/
def slices_SortStableFunc_api_Line_api_Line.cps (C : CSem) (N : Nat → Nat) (v0 v1 : AVal) (h : AHeap) (Q : AVal → AHeap → Prop) : Prop :=
  slices_SortStableFuncG.cps C (opsF 8 80 [.int .i64 0, .str [], .int .i64 0, .int .i64 0, .int .i64 0, .int .u8 0, .int .i64 0, .str []] 0 []) (N 208) v0 v1 h Q
def slices_SortStableFunc_api_Line_api_Line.Imp (C : CSem) (N : Nat → Nat) : Prop := ∀ (v0 v1 : AVal) (h : AHeap) (Q : AVal → AHeap → Prop), slices_SortStableFunc_api_Line_api_Line.cps C N v0 v1 h (dn Q) → C (N 204) [v0, v1] h Q
/-- slices.IndexFunc[[]storeman/api.Line,storeman/api.Line] -/
def slices_IndexFunc_api_Line_api_Line.cps (C : CSem) (N : Nat → Nat) (v0 v1 : AVal) (h : AHeap) (Q : AVal → AHeap → Prop) : Prop :=
  slices_IndexFuncG.cps C (opsF 8 80 [.int .i64 0, .str [], .int .i64 0, .int .i64 0, .int .i64 0, .int .u8 0, .int .i64 0, .str []] 0 []) v0 v1 h Q
def slices_IndexFunc_api_Line_api_Line.Imp (C : CSem) (N : Nat → Nat) : Prop := ∀ (v0 v1 : AVal) (h : AHeap) (Q : AVal → AHeap → Prop), slices_IndexFunc_api_Line_api_Line.cps C N v0 v1 h (dn Q) → C (N 206) [v0, v1] h Q
/-- slices.stableCmpFunc[storeman/api.Line] -/
def slices_stableCmpFunc_api_Line.cps (C : CSem) (N : Nat → Nat) (v0 v1 v2 : AVal) (h : AHeap) (Q : AVal → AHeap → Prop) : Prop :=
  slices_stableCmpFuncG.cps C (opsF 8 80 [.int .i64 0, .str [], .int .i64 0, .int .i64 0, .int .i64 0, .int .u8 0, .int .i64 0, .str []] 0 []) (N 209) (N 210) v0 v1 v2 h Q
def slices_stableCmpFunc_api_Line.Imp (C : CSem) (N : Nat → Nat) : Prop := ∀ (v0 v1 v2 : AVal) (h : AHeap) (Q : AVal → AHeap → Prop), slices_stableCmpFunc_api_Line.cps C N v0 v1 v2 h (dn Q) → C (N 208) [v0, v1, v2] h Q
/-- slices.symMergeCmpFunc[storeman/api.Line] -/
def slices_symMergeCmpFunc_api_Line.cps (C : CSem) (N : Nat → Nat) (v0 v1 v2 v3 v4 : AVal) (h : AHeap) (Q : AVal → AHeap → Prop) : Prop :=
  slices_symMergeCmpFuncG.cps C (opsF 8 80 [.int .i64 0, .str [], .int .i64 0, .int .i64 0, .int .i64 0, .int .u8 0, .int .i64 0, .str []] 0 []) (N 209) (N 211) v0 v1 v2 v3 v4 h Q
def slices_symMergeCmpFunc_api_Line.Imp (C : CSem) (N : Nat → Nat) : Prop := ∀ (v0 v1 v2 v3 v4 : AVal) (h : AHeap) (Q : AVal → AHeap → Prop), slices_symMergeCmpFunc_api_Line.cps C N v0 v1 v2 v3 v4 h (dn Q) → C (N 209) [v0, v1, v2, v3, v4] h Q
/-- slices.insertionSortCmpFunc[storeman/api.Line] -/
def slices_insertionSortCmpFunc_api_Line.cps (C : CSem) (N : Nat → Nat) (v0 v1 v2 v3 : AVal) (h : AHeap) (Q : AVal → AHeap → Prop) : Prop :=
  slices_insertionSortCmpFuncG.cps C (opsF 8 80 [.int .i64 0, .str [], .int .i64 0, .int .i64 0, .int .i64 0, .int .u8 0, .int .i64 0, .str []] 0 []) v0 v1 v2 v3 h Q
def slices_insertionSortCmpFunc_api_Line.Imp (C : CSem) (N : Nat → Nat) : Prop := ∀ (v0 v1 v2 v3 : AVal) (h : AHeap) (Q : AVal → AHeap → Prop), slices_insertionSortCmpFunc_api_Line.cps C N v0 v1 v2 v3 h (dn Q) → C (N 210) [v0, v1, v2, v3] h Q
/-- slices.rotateCmpFunc[storeman/api.Line] -/
def slices_rotateCmpFunc_api_Line.cps (C : CSem) (N : Nat → Nat) (v0 v1 v2 v3 v4 : AVal) (h : AHeap) (Q : AVal → AHeap → Prop) : Prop :=
  slices_rotateCmpFuncG.cps C (opsF 8 80 [.int .i64 0, .str [], .int .i64 0, .int .i64 0, .int .i64 0, .int .u8 0, .int .i64 0, .str []] 0 []) (N 212) v0 v1 v2 v3 v4 h Q
def slices_rotateCmpFunc_api_Line.Imp (C : CSem) (N : Nat → Nat) : Prop := ∀ (v0 v1 v2 v3 v4 : AVal) (h : AHeap) (Q : AVal → AHeap → Prop), slices_rotateCmpFunc_api_Line.cps C N v0 v1 v2 v3 v4 h (dn Q) → C (N 211) [v0, v1, v2, v3, v4] h Q
/-- slices.swapRangeCmpFunc[storeman/api.Line] -/
def slices_swapRangeCmpFunc_api_Line.cps (C : CSem) (N : Nat → Nat) (v0 v1 v2 v3 v4 : AVal) (h : AHeap) (Q : AVal → AHeap → Prop) : Prop :=
  slices_swapRangeCmpFuncG.cps C (opsF 8 80 [.int .i64 0, .str [], .int .i64 0, .int .i64 0, .int .i64 0, .int .u8 0, .int .i64 0, .str []] 0 []) v0 v1 v2 v3 v4 h Q
def slices_swapRangeCmpFunc_api_Line.Imp (C : CSem) (N : Nat → Nat) : Prop := ∀ (v0 v1 v2 v3 v4 : AVal) (h : AHeap) (Q : AVal → AHeap → Prop), slices_swapRangeCmpFunc_api_Line.cps C N v0 v1 v2 v3 v4 h (dn Q) → C (N 212) [v0, v1, v2, v3, v4] h Q
end Go.Ab
