/-
  The table of objects under other names.
-/
import Derived.Test.YtgegmojoakkohaaGreatDoorVm1r
import Derived.Test.YtgegmojoakkohaaGreatDoorVm2
import Derived.Conc.MuLone
namespace Go.Vm
variable {G : Gl}
set_option linter.unusedVariables false
set_option linter.unusedSimpArgs false

/-- Of one kind: a box and a box, a row and the same row, two that are gone. -/
def Same : Obj → Obj → Prop
  | .box _, .box _ => True
  | .row wr k l, o' => o' = .row wr k l
  | .dead, .dead => True
  | _, _ => False

theorem Same.live {o o' : Obj} (h : Same o o') : o'.live = o.live := by
  cases o <;> cases o' <;> simp [Same] at h <;> try rfl

structure Ren (m : List (Id × Id)) (h : Hp) (loc : Loc) (h' : Hp) (loc' : Loc) : Prop where
  to : ∀ a b o, look m a = some b → h a = some o → ∃ o', h' b = some o' ∧ Same o o' ∧ loc' b = loc a

theorem CellW.mono {w : World} {M M' : Nat → Prop} (hM : ∀ b, M' b → M b) : ∀ {n : Nat} {v : Value} {f : F}, CellW w M n v f → CellW w M' n v f
  | 0, v, .sc u, h => h
  | 0, v, .err, h => h
  | n + 1, v, .sc u, h => h
  | n + 1, v, .err, h => h
  | n + 1, v, .sl t k l, ⟨A, c, h1, h2, h3, h4⟩ => ⟨A, c, h1, h2, h3, fun i x hx => by
      obtain ⟨b, o, ha, hm, hb, hc⟩ := h4 i x hx
      exact ⟨b, o, ha, fun h => hm (hM b h), hb, fun j f hf => by obtain ⟨u, hu, hr⟩ := hc j f hf; exact ⟨u, hu, CellW.mono hM hr⟩⟩⟩
  | n + 1, v, .ep k x off, ⟨b, o, h1, hm, hb, hc⟩ => ⟨b, o, h1, fun h => hm (hM b h), hb, fun j f hf => by obtain ⟨u, hu, hr⟩ := hc j f hf; exact ⟨u, hu, CellW.mono hM hr⟩⟩

section
variable {w : World} {M M' : Nat → Prop} {h h' : Hp} {loc loc' : Loc} {m : List (Id × Id)} {U U' : Nat → Prop}

mutual
theorem CW.ren (r : Ren m h loc h' loc') (hM : ∀ b, M' b → M b) : ∀ (c : C) {v : Value}, CW w M h loc v c → CW w M' h' loc' v (renC m c)
  | .f x, v, hc => by
    unfold renC
    unfold CW at hc ⊢
    obtain ⟨n, hn⟩ := hc
    exact ⟨n, hn.mono hM⟩
  | .bx id off, v, hc => by
    unfold renC
    cases hl : look m id with
    | none => simp only; unfold CW; trivial
    | some j =>
      simp only
      unfold CW at hc ⊢
      obtain ⟨⟨ds, ho⟩, b, c, hb, hv⟩ := hc
      obtain ⟨o', ho', hs, hlo⟩ := r.to _ _ _ hl ho
      cases o' with
      | box cs => exact ⟨⟨cs, ho'⟩, b, c, by rw [hlo]; exact hb, hv⟩
      | row => simp [Same] at hs
      | dead => simp [Same] at hs
  | .row id k, v, hc => by
    unfold renC
    cases hl : look m id with
    | none => simp only; unfold CW; trivial
    | some j =>
      simp only
      unfold CW at hc ⊢
      obtain ⟨hsh, h1, h2⟩ := hc
      obtain ⟨o, ho⟩ := Option.isSome_iff_exists.1 h1
      obtain ⟨o', ho', hs, hlo⟩ := r.to _ _ _ hl ho
      refine ⟨hsh, by rw [ho']; rfl, fun wr k' l hcs => ?_⟩
      rw [ho'] at hcs
      obtain rfl := Option.some.inj hcs
      cases o with
      | box ds => simp [Same] at hs
      | dead => simp [Same] at hs
      | row wr0 k0 l0 =>
        simp only [Same, Obj.row.injEq] at hs
        obtain ⟨rfl, rfl, hs⟩ := hs
        obtain rfl := eq_of_heq hs
        obtain ⟨rfl, h3, h4⟩ := h2 _ _ _ ho
        refine ⟨rfl, fun b c hb => h3 b c (by rw [← hlo]; exact hb), fun hb => ?_⟩
        obtain ⟨n, hn⟩ := h4 (by rw [← hlo]; exact hb)
        exact ⟨n, hn.mono hM⟩
  | .re id k i off, v, hc => by
    unfold renC
    cases hl : look m id with
    | none => simp only; unfold CW; trivial
    | some j =>
      simp only
      unfold CW at hc ⊢
      obtain ⟨h1, h2, b, c, hb, hv⟩ := hc
      obtain ⟨o, ho⟩ := Option.isSome_iff_exists.1 h1
      obtain ⟨o', ho', hs, hlo⟩ := r.to _ _ _ hl ho
      refine ⟨by rw [ho']; rfl, fun wr k' l hcs => ?_, b, c, by rw [hlo]; exact hb, hv⟩
      rw [ho'] at hcs
      obtain rfl := Option.some.inj hcs
      cases o with
      | box ds => simp [Same] at hs
      | dead => simp [Same] at hs
      | row wr0 k0 l0 =>
        simp only [Same, Obj.row.injEq] at hs
        obtain ⟨rfl, rfl, hs⟩ := hs
        exact h2 _ _ _ ho
  | .fn f caps, v, hc => by
    unfold renC
    unfold CW at hc ⊢
    obtain ⟨us, hv, hs⟩ := hc
    exact ⟨us, hv, CWs.ren r hM caps hs⟩
  | .hole, v, hc => by unfold renC CW; trivial
  | .und, v, hc => by unfold renC; unfold CW at hc ⊢; exact hc
theorem CWs.ren (r : Ren m h loc h' loc') (hM : ∀ b, M' b → M b) : ∀ (cs : List C) {vs : List Value}, CWs w M h loc vs cs → CWs w M' h' loc' vs (renCs m cs)
  | [], [], _ => by unfold renCs CWs; trivial
  | [], _ :: _, hc => by unfold CWs at hc; exact hc.elim
  | c :: cs, [], hc => by unfold CWs at hc; exact hc.elim
  | c :: cs, v :: vs, hc => by unfold renCs; unfold CWs at hc ⊢; exact ⟨CW.ren r hM c hc.1, CWs.ren r hM cs hc.2⟩
end

mutual
theorem VW.ren (r : Ren m h loc h' loc') (hM : ∀ b, M' b → M b) : ∀ (c : V) {v : Value}, VW w M h loc v c → VW w M' h' loc' v (renV m c)
  | .c x, v, hc => by unfold renV; unfold VW at hc ⊢; exact CW.ren r hM x hc
  | .agg cs, v, hc => by
    unfold renV
    unfold VW at hc ⊢
    obtain ⟨us, hv, hs⟩ := hc
    exact ⟨us, hv, CWs.ren r hM cs hs⟩
  | .tup vs, v, hc => by
    unfold renV
    unfold VW at hc ⊢
    obtain ⟨us, hv, hs⟩ := hc
    exact ⟨us, hv, VWs.ren r hM vs hs⟩
theorem VWs.ren (r : Ren m h loc h' loc') (hM : ∀ b, M' b → M b) : ∀ (cs : List V) {vs : List Value}, VWs w M h loc vs cs → VWs w M' h' loc' vs (renVs m cs)
  | [], [], _ => by unfold renVs VWs; trivial
  | [], _ :: _, hc => by unfold VWs at hc; exact hc.elim
  | c :: cs, [], hc => by unfold VWs at hc; exact hc.elim
  | c :: cs, v :: vs, hc => by unfold renVs; unfold VWs at hc ⊢; exact ⟨VW.ren r hM c hc.1, VWs.ren r hM cs hc.2⟩
end

theorem renO_same (o : Obj) : Same o (renO m o) := by cases o <;> simp [Same, renO]

theorem OW.ren (r : Ren m h loc h' loc') (hM : ∀ b, M' b → M b) {a b : Id} (hl : loc' b = loc a) : ∀ {o : Obj}, OW w M h loc a o → OW w M' h' loc' b (renO m o)
  | .box cs, ⟨blk, c, us, T, h1, h2, h3⟩ => ⟨blk, c, us, T, by rw [hl]; exact h1, h2, CWs.ren r hM cs h3⟩
  | .row wr k l, ⟨ha, hb⟩ => by
    unfold renO
    exact ⟨fun hn hw => ha (by rw [← hl]; exact hn) hw, fun blk c hlo => by
      obtain ⟨us, T, h3, h4, h5, h6⟩ := hb blk c (by rw [← hl]; exact hlo)
      exact ⟨us, T, h3, h4, h5, fun i x j f hx hf => by obtain ⟨u, n, hu, hr⟩ := h6 i x j f hx hf; exact ⟨u, n, hu, hr.mono hM⟩⟩⟩
  | .dead, _ => by unfold renO; trivial

/-- Where the new table's live objects come from. -/
def Src' (m : List (Id × Id)) (h : Hp) (loc : Loc) (h' : Hp) (loc' : Loc) : Prop :=
  ∀ b o' blk c, h' b = some o' → o'.live = true → loc' b = some (blk, c) → ∃ a o, look m a = some b ∧ h a = some o ∧ o.live = true ∧ loc a = some (blk, c)

theorem Mut.ren (hU : ∀ b, U' b → Mut U h loc b) (hs : Src' m h loc h' loc') : ∀ b, Mut U' h' loc' b → Mut U h loc b := by
  rintro b (hu | ⟨id, o, c, ho, hl, hlo⟩)
  · exact hU b hu
  · obtain ⟨a, o0, _, h1, h2, h3⟩ := hs id o b c ho hl hlo
    exact .inr ⟨a, o0, c, h1, h2, h3⟩

theorem HW.mutLow (hw : HW G U h loc w) {b : Nat} (hb : Mut U h loc b) : b < w.heap.size := by
  rcases hb with hu | ⟨id, o, c, ho, hl, hlo⟩
  · exact hw.low b hu
  · exact (hw.sep id o b c ho hl hlo).2

theorem HW.ren (hw : HW G U h loc w) (hUU : ∀ b, U b → U' b) (hU : ∀ b, U' b → Mut U h loc b) (hs : Src' m h loc h' loc')
    (hd : ∀ a b o blk c, look m a = some b → h a = some o → o.live = true → loc a = some (blk, c) → ¬ U' blk)
    (hobj : ∀ b o', h' b = some o' → OW w (Mut U' h' loc') h' loc' b o') : HW G U' h' loc' w := by
  refine ⟨hobj, ?_, ?_, fun b hb => hw.mutLow (hU b hb), hw.gl.1, fun b hb => ⟨(hw.gl.2 b hb).1, (hw.gl.2 b hb).2.elim (fun h => .inl (hUU b h)) (fun h => .inr fun hm => h (Mut.ren hU hs b hm))⟩⟩
  · intro i1 i2 o1 o2 blk c1 c2 h1 l1 h2 l2 e1 e2
    obtain ⟨a1, p1, q1, r1, s1, t1⟩ := hs i1 o1 blk c1 h1 l1 e1
    obtain ⟨a2, p2, q2, r2, s2, t2⟩ := hs i2 o2 blk c2 h2 l2 e2
    have := hw.inj a1 a2 p1 p2 blk c1 c2 r1 s1 r2 s2 t1 t2
    subst this
    rw [q1] at q2
    exact Option.some.inj q2
  · intro i o blk c h1 l1 e1
    obtain ⟨a1, p1, q1, r1, s1, t1⟩ := hs i o blk c h1 l1 e1
    exact ⟨hd a1 i p1 blk c q1 r1 s1 t1, (hw.sep a1 p1 blk c r1 s1 t1).2⟩

/-! ### Lists of names -/

theorem memId_iff {i : Id} : ∀ {l : List Id}, memId i l = true ↔ i ∈ l
  | [] => by simp [memId]
  | j :: l => by
    simp only [memId, Bool.or_eq_true, List.mem_cons, memId_iff (l := l), Id.beq_true]
    constructor
    · rintro (rfl | h)
      · exact .inl rfl
      · exact .inr h
    · rintro (rfl | h)
      · exact .inl rfl
      · exact .inr h

theorem distinct_get : ∀ {l : List Id}, distinct l = true → ∀ {i j : Nat} {x : Id}, l[i]? = some x → l[j]? = some x → i = j
  | [], _, i, j, x, hi, _ => by simp at hi
  | y :: l, hd, i, j, x, hi, hj => by
    simp only [distinct, Bool.and_eq_true, Bool.not_eq_true'] at hd
    have hno : y ∉ l := by
      intro h
      rw [memId_iff.2 h] at hd
      exact absurd hd.1 (by simp)
    cases i with
    | zero =>
      simp at hi; subst hi
      cases j with
      | zero => rfl
      | succ j => simp at hj; exact absurd (List.mem_of_getElem? hj) hno
    | succ i =>
      simp at hi
      cases j with
      | zero => simp at hj; subst hj; exact absurd (List.mem_of_getElem? hi) hno
      | succ j => simp at hj; rw [distinct_get hd.2 hi hj]

theorem allIn_iff {l : List Id} : ∀ {r : List Id}, allIn l r = true ↔ ∀ i ∈ r, i ∈ l
  | [] => by simp [allIn]
  | i :: r => by simp [allIn, memId_iff, allIn_iff (r := r)]

theorem look_numFrom {mk : Nat → Id} : ∀ {ids : List Id} {n : Nat} {i b : Id}, look (numFrom mk n ids) i = some b → ∃ j, ids[j]? = some i ∧ b = mk (n + j)
  | [], n, i, b, h => by simp [numFrom, look] at h
  | x :: ids, n, i, b, h => by
    simp only [numFrom, look] at h
    cases hb : Id.beq x i with
    | true =>
      rw [hb] at h
      simp at h
      obtain rfl := Id.beq_true.1 hb
      exact ⟨0, rfl, h.symm⟩
    | false =>
      rw [hb] at h
      obtain ⟨j, h1, h2⟩ := look_numFrom h
      exact ⟨j + 1, by simpa using h1, by rw [h2]; congr 1; omega⟩

theorem look_numFrom_get {mk : Nat → Id} : ∀ {ids : List Id} {n j : Nat} {i : Id}, distinct ids = true → ids[j]? = some i → look (numFrom mk n ids) i = some (mk (n + j))
  | [], n, j, i, _, h => by simp at h
  | x :: ids, n, j, i, hd, h => by
    simp only [numFrom, look]
    cases hb : Id.beq x i with
    | true =>
      obtain rfl := Id.beq_true.1 hb
      have := distinct_get hd (i := 0) (j := j) rfl h
      subst this
      simp
    | false =>
      simp only [cond_false]
      cases j with
      | zero => simp at h; subst h; rw [Id.beq_self] at hb; cases hb
      | succ j =>
        simp only [distinct, Bool.and_eq_true] at hd
        rw [look_numFrom_get hd.2 (by simpa using h)]
        congr 2
        omega

theorem hpOf_some {mk : Nat → Id} : ∀ {os : List Obj} {n : Nat} {b : Id} {o : Obj}, hpOf mk n os b = some o → ∃ j, b = mk (n + j) ∧ os[j]? = some o
  | [], n, b, o, h => by simp [hpOf] at h
  | x :: os, n, b, o, h => by
    simp only [hpOf] at h
    cases hb : Id.beq b (mk n) with
    | true =>
      rw [hb] at h
      simp at h
      exact ⟨0, Id.beq_true.1 hb, by simpa using h⟩
    | false =>
      rw [hb] at h
      obtain ⟨j, h1, h2⟩ := hpOf_some h
      exact ⟨j + 1, by rw [h1]; congr 1; omega, by simpa using h2⟩

theorem hpOf_get {mk : Nat → Id} (hi : ∀ a b, mk a = mk b → a = b) : ∀ {os : List Obj} {n j : Nat}, hpOf mk n os (mk (n + j)) = os[j]?
  | [], n, j => by simp [hpOf]
  | x :: os, n, 0 => by simp [hpOf, Id.beq_self]
  | x :: os, n, j + 1 => by
    have hne : mk (n + (j + 1)) ≠ mk n := fun h => by have := hi _ _ h; omega
    simp only [hpOf, Id.beq_ne hne, cond_false]
    rw [show n + (j + 1) = n + 1 + j by omega, hpOf_get hi]
    simp

theorem arg_inj : ∀ a b, Id.arg a = Id.arg b → a = b := fun a b h => by simpa using h
theorem ret_inj (s : Nat) : ∀ a b, Id.ret s a = Id.ret s b → a = b := fun a b h => by simpa using h

theorem hpOf_arg {os : List Obj} {j : Nat} : hpOf .arg 0 os (.arg j) = os[j]? := by
  have := hpOf_get arg_inj (os := os) (n := 0) (j := j)
  simpa using this

theorem hpOf_ret {os : List Obj} {s j : Nat} : hpOf (.ret s) 0 os (.ret s j) = os[j]? := by
  have := hpOf_get (ret_inj s) (os := os) (n := 0) (j := j)
  simpa using this

theorem hpOf_arg_ne {os : List Obj} {b : Id} (hb : ∀ j, b ≠ .arg j) : hpOf .arg 0 os b = none := by
  cases h : hpOf .arg 0 os b with
  | none => rfl
  | some o => obtain ⟨j, h1, _⟩ := hpOf_some h; exact absurd h1 (hb _)

theorem getAll_some : ∀ {ids : List Id} {os : List Obj}, getAll h ids = some os → os.length = ids.length ∧ ∀ (j : Nat) (i : Id), ids[j]? = some i → ∃ o, h i = some o ∧ os[j]? = some o
  | [], os, hg => by simp [getAll] at hg; subst hg; exact ⟨rfl, fun j i hi => by simp at hi⟩
  | i :: ids, os, hg => by
    simp only [getAll, Option.bind_eq_some_iff, Option.some.injEq] at hg
    obtain ⟨o, ho, l, hl, rfl⟩ := hg
    obtain ⟨h1, h2⟩ := getAll_some hl
    refine ⟨by simp [h1], fun j x hx => ?_⟩
    cases j with
    | zero => simp at hx; subst hx; exact ⟨o, ho, rfl⟩
    | succ j => simpa using h2 j x (by simpa using hx)

end
end Go.Vm

namespace Go.Vm
set_option linter.unusedVariables false
set_option linter.unusedSimpArgs false

section
variable {w : World} {M M' : Nat → Prop} {h h' : Hp} {loc loc' : Loc} {m : List (Id × Id)} {U U' : Nat → Prop}

/-- The same names, the same kinds of objects. -/
def Shape (h : Hp) (loc : Loc) (h' : Hp) (loc' : Loc) : Prop := ∀ i o, h i = some o → ∃ o', h' i = some o' ∧ Same o o' ∧ loc' i = loc i

theorem Shape.refl (h : Hp) (loc : Loc) : Shape h loc h loc := fun i o ho => ⟨o, ho, by cases o <;> simp [Same], rfl⟩

mutual
theorem CW.shape (r : Shape h loc h' loc') (hM : ∀ b, M' b → M b) : ∀ (c : C) {v : Value}, CW w M h loc v c → CW w M' h' loc' v c
  | .f x, v, hc => by
    unfold CW at hc ⊢
    obtain ⟨n, hn⟩ := hc
    exact ⟨n, hn.mono hM⟩
  | .bx id off, v, hc => by
    unfold CW at hc ⊢
    obtain ⟨⟨ds, ho⟩, b, c, hb, hv⟩ := hc
    obtain ⟨o', ho', hs, hlo⟩ := r _ _ ho
    cases o' with
    | box cs => exact ⟨⟨cs, ho'⟩, b, c, by rw [hlo]; exact hb, hv⟩
    | row => simp [Same] at hs
    | dead => simp [Same] at hs
  | .row id k, v, hc => by
    unfold CW at hc ⊢
    obtain ⟨hsh, h1, h2⟩ := hc
    obtain ⟨o, ho⟩ := Option.isSome_iff_exists.1 h1
    obtain ⟨o', ho', hs, hlo⟩ := r _ _ ho
    refine ⟨hsh, by rw [ho']; rfl, fun wr k' l hcs => ?_⟩
    rw [ho'] at hcs
    obtain rfl := Option.some.inj hcs
    cases o with
    | box ds => simp [Same] at hs
    | dead => simp [Same] at hs
    | row wr0 k0 l0 =>
      simp only [Same, Obj.row.injEq] at hs
      obtain ⟨rfl, rfl, hs⟩ := hs
      obtain rfl := eq_of_heq hs
      obtain ⟨rfl, h3, h4⟩ := h2 _ _ _ ho
      refine ⟨rfl, fun b c hb => h3 b c (by rw [← hlo]; exact hb), fun hb => ?_⟩
      obtain ⟨n, hn⟩ := h4 (by rw [← hlo]; exact hb)
      exact ⟨n, hn.mono hM⟩
  | .re id k i off, v, hc => by
    unfold CW at hc ⊢
    obtain ⟨h1, h2, b, c, hb, hv⟩ := hc
    obtain ⟨o, ho⟩ := Option.isSome_iff_exists.1 h1
    obtain ⟨o', ho', hs, hlo⟩ := r _ _ ho
    refine ⟨by rw [ho']; rfl, fun wr k' l hcs => ?_, b, c, by rw [hlo]; exact hb, hv⟩
    rw [ho'] at hcs
    obtain rfl := Option.some.inj hcs
    cases o with
    | box ds => simp [Same] at hs
    | dead => simp [Same] at hs
    | row wr0 k0 l0 =>
      simp only [Same, Obj.row.injEq] at hs
      obtain ⟨rfl, rfl, hs⟩ := hs
      exact h2 _ _ _ ho
  | .fn f caps, v, hc => by
    unfold CW at hc ⊢
    obtain ⟨us, hv, hs⟩ := hc
    exact ⟨us, hv, CWs.shape r hM caps hs⟩
  | .hole, v, hc => by unfold CW; trivial
  | .und, v, hc => by unfold CW at hc ⊢; exact hc
theorem CWs.shape (r : Shape h loc h' loc') (hM : ∀ b, M' b → M b) : ∀ (cs : List C) {vs : List Value}, CWs w M h loc vs cs → CWs w M' h' loc' vs cs
  | [], [], _ => by unfold CWs; trivial
  | [], _ :: _, hc => by unfold CWs at hc; exact hc.elim
  | c :: cs, [], hc => by unfold CWs at hc; exact hc.elim
  | c :: cs, v :: vs, hc => by unfold CWs at hc ⊢; exact ⟨CW.shape r hM c hc.1, CWs.shape r hM cs hc.2⟩
end

mutual
theorem VW.shape (r : Shape h loc h' loc') (hM : ∀ b, M' b → M b) : ∀ (c : V) {v : Value}, VW w M h loc v c → VW w M' h' loc' v c
  | .c x, v, hc => by unfold VW at hc ⊢; exact CW.shape r hM x hc
  | .agg cs, v, hc => by
    unfold VW at hc ⊢
    obtain ⟨us, hv, hs⟩ := hc
    exact ⟨us, hv, CWs.shape r hM cs hs⟩
  | .tup vs, v, hc => by
    unfold VW at hc ⊢
    obtain ⟨us, hv, hs⟩ := hc
    exact ⟨us, hv, VWs.shape r hM vs hs⟩
theorem VWs.shape (r : Shape h loc h' loc') (hM : ∀ b, M' b → M b) : ∀ (cs : List V) {vs : List Value}, VWs w M h loc vs cs → VWs w M' h' loc' vs cs
  | [], [], _ => by unfold VWs; trivial
  | [], _ :: _, hc => by unfold VWs at hc; exact hc.elim
  | c :: cs, [], hc => by unfold VWs at hc; exact hc.elim
  | c :: cs, v :: vs, hc => by unfold VWs at hc ⊢; exact ⟨VW.shape r hM c hc.1, VWs.shape r hM cs hc.2⟩
end

theorem VW.mono (hM : ∀ b, M' b → M b) {c : V} {v : Value} (hc : VW w M h loc v c) : VW w M' h loc v c := VW.shape (Shape.refl h loc) hM c hc

/-! ### Flat values -/

theorem flatC_ok {c : C} {v : Value} (hf : flatC c = true) (hc : CW w M h loc v c) : CW w M' h' loc' v c := by
  unfold flatC at hf
  split at hf
  · unfold CW at hc ⊢
    obtain ⟨n, hn⟩ := hc
    exact ⟨0, by cases n <;> exact hn⟩
  · cases hf

theorem flatCs_ok : ∀ {cs : List C} {vs : List Value}, cs.all flatC = true → CWs w M h loc vs cs → CWs w M' h' loc' vs cs
  | [], [], _, _ => by unfold CWs; trivial
  | [], _ :: _, _, hc => by unfold CWs at hc; exact hc.elim
  | c :: cs, [], _, hc => by unfold CWs at hc; exact hc.elim
  | c :: cs, v :: vs, hf, hc => by
    simp only [List.all_cons, Bool.and_eq_true] at hf
    unfold CWs at hc ⊢
    exact ⟨flatC_ok hf.1 hc.1, flatCs_ok hf.2 hc.2⟩

theorem flatVs_ok : ∀ {vs : List V} {us : List Value}, (vs.all fun | .c x => flatC x | .agg cs => cs.all flatC | .tup _ => false) = true → VWs w M h loc us vs → VWs w M' h' loc' us vs
  | [], [], _, _ => by unfold VWs; trivial
  | [], _ :: _, _, hc => by unfold VWs at hc; exact hc.elim
  | c :: cs, [], _, hc => by unfold VWs at hc; exact hc.elim
  | c :: cs, v :: vs, hf, hc => by
    simp only [List.all_cons, Bool.and_eq_true] at hf
    unfold VWs at hc ⊢
    refine ⟨?_, flatVs_ok hf.2 hc.2⟩
    have h1 := hc.1
    cases c with
    | c x => unfold VW at h1 ⊢; exact flatC_ok hf.1 h1
    | agg cs => unfold VW at h1 ⊢; obtain ⟨us, e, hs⟩ := h1; exact ⟨us, e, flatCs_ok hf.1 hs⟩
    | tup vs => simp at hf

theorem flatV_ok {v : V} {u : Value} (hf : flatV v = true) (hc : VW w M h loc u v) : VW w M' h' loc' u v := by
  cases v with
  | c x => unfold VW at hc ⊢; exact flatC_ok hf hc
  | agg cs => unfold VW at hc ⊢; obtain ⟨us, e, hs⟩ := hc; exact ⟨us, e, flatCs_ok hf hs⟩
  | tup vs => unfold VW at hc ⊢; obtain ⟨us, e, hs⟩ := hc; exact ⟨us, e, flatVs_ok hf hs⟩

/-! ### Casts -/

theorem asEl_ok {k : Kind} {v : V} {x : El k} (hx : asEl k v = some x) : ∃ fs, v = .agg (fs.map C.f) ∧ Wk fs (cellsOf k x) := by
  unfold asEl at hx
  split at hx
  · rw [Option.bind_eq_some_iff] at hx
    obtain ⟨fs, h1, h2⟩ := hx
    obtain rfl := lmapM_frz h1
    exact ⟨fs, rfl, ofCells_wk h2⟩
  · cases hx

theorem asCert_ok {v : V} {x : Cert} (hx : asCert v = some x) : ∃ fs, v = .agg (fs.map C.f) ∧ Wk fs (Cert.cells x) := by
  unfold asCert at hx
  split at hx
  · rename_i a b c d t l e
    simp only [Option.some.injEq] at hx
    subst hx
    exact ⟨[.str a, .int b, .int c, .str d, .sl t .term l, .int e], rfl, by simp [Wk, Cert.cells]⟩
  · cases hx

theorem asClient_ok {v : V} {x : Client} (hx : asClient v = some x) : ∃ fs, v = .agg (fs.map C.f) ∧ Wk fs (Client.cells x) := by
  unfold asClient at hx
  split at hx
  · rename_i st hh m e b to tn ts tg tk i o tl p
    simp only [Option.some.injEq] at hx
    subst hx
    exact ⟨[.int st, .str hh, .bool m, .int e, .int b, .int to, .int tn, .str ts, .sl tg .term tk, .int i, .int o, .bool tl, .bool p], rfl, by simp [Wk, Client.cells]⟩
  · cases hx

theorem asServer_ok {v : V} {x : Server} (hx : asServer v = some x) : ∃ fs, v = .agg (fs.map C.f) ∧ Wk fs (Server.cells x) := by
  unfold asServer at hx
  split at hx
  · rename_i st nm k e co cn cs cg ck so sn ss sg sk i o tl gg g
    simp only [Option.some.injEq] at hx
    subst hx
    exact ⟨[.int st, .str nm, .int k, .int e, .int co, .int cn, .str cs, .sl cg .term ck, .int so, .int sn, .str ss, .sl sg .term sk, .int i, .int o, .bool tl, .sl gg .int g], rfl, by simp [Wk, Server.cells]⟩
  · cases hx

theorem asWorld_ok {v : V} {x : WorldD} (hx : asWorld v = some x) : ∃ fs, v = .agg (fs.map C.f) ∧ Wk fs (WorldD.cells x) := by
  unfold asWorld at hx
  split at hx
  · rename_i t fr g1 kn g2 ca g3 ho g4 le bo su g5 cl g6 ta g7 to
    simp only [Option.some.injEq] at hx
    subst hx
    exact ⟨[.int t, .int fr, .sl g1 .term kn, .sl g2 .policy ca, .sl g3 .host ho, .sl g4 .letter le, .str bo, .int su, .sl g5 .call cl, .sl g6 .talk ta, .sl g7 .int to], rfl, by simp [Wk, WorldD.cells]⟩
  · cases hx

theorem VW.ofWk {u : Value} {fs : List F} {gs : List F} (hc : VW w M h loc u (.agg (fs.map C.f))) (hk : Wk fs gs) : VW w M h loc u (.agg (gs.map C.f)) := by
  unfold VW at hc ⊢
  obtain ⟨us, e, hs⟩ := hc
  exact ⟨us, e, hs.wk hk⟩

theorem CW.loose {v : Value} {t : Bool} {k : Kind} {l : List (El k)} (hc : CW w M h loc v (.f (.sl t k l))) : CW w M h loc v (.f (.sl false k l)) := by
  unfold CW at hc ⊢
  obtain ⟨n, hn⟩ := hc
  cases n with
  | zero => exact hn.elim
  | succ n => exact ⟨n + 1, hn.loose⟩

theorem fBool_ok {c : C} {b : Bool} (hb : fBool c = some b) : c = .f (.sc (.bool b)) := by
  unfold fBool at hb; split at hb
  · simp at hb; subst hb; rfl
  · cases hb
theorem fInt_ok {c : C} {b : Int} (hb : fInt c = some b) : c = .f (.sc (.int .i64 b)) := by
  unfold fInt at hb; split at hb
  · simp at hb; subst hb; rfl
  · cases hb
theorem fU8_ok {c : C} {b : Int} (hb : fU8 c = some b) : c = .f (.sc (.int .u8 b)) := by
  unfold fU8 at hb; split at hb
  · simp at hb; subst hb; rfl
  · cases hb
theorem fStr_ok {c : C} {b : ByteArray} (hb : fStr c = some b) : c = .f (.sc (.string b)) := by
  unfold fStr at hb; split at hb
  · simp at hb; subst hb; rfl
  · cases hb
theorem fSl_ok {k : Kind} {c : C} {l : List (El k)} (hb : fSl k c = some l) : ∃ t, c = .f (.sl t k l) := by
  unfold fSl at hb; split at hb
  · rename_i t k' l'
    by_cases hk : k' = k
    · subst hk; simp at hb; subst hb; exact ⟨t, rfl⟩
    · simp [hk] at hb
  · cases hb
theorem fErr_ok {c : C} {b : Bool} (hb : fErr c = some b) : c = errC b := by
  unfold fErr at hb; split at hb
  · simp at hb; subst hb; rfl
  · simp at hb; subst hb; rfl
  · cases hb
theorem fBx_ok {id : Id} {off : Nat} {c : C} {u : Unit} (hb : fBx id off c = some u) : c = .bx id off := by
  unfold fBx at hb; split at hb
  · rename_i id' off'
    cases hc : Id.beq id' id && Nat.beq off' off with
    | false => rw [hc] at hb; simp at hb
    | true =>
      simp only [Bool.and_eq_true] at hc
      rw [Id.beq_true.1 hc.1, Nat.eq_of_beq_eq_true hc.2]
  · cases hb
theorem fRow_ok {id : Id} {k : Kind} {c : C} {u : Unit} (hb : fRow id k c = some u) : c = .row id k := by
  unfold fRow at hb; split at hb
  · rename_i id' k'
    cases hc : Id.beq id' id && decide (k' = k) with
    | false => rw [hc] at hb; simp at hb
    | true =>
      simp only [Bool.and_eq_true, decide_eq_true_eq] at hc
      rw [Id.beq_true.1 hc.1, hc.2]
  · cases hb

theorem unC_ok {v : V} {c : C} (hv : unC v = some c) : v = .c c := by
  unfold unC at hv; split at hv
  · simp at hv; subst hv; rfl
  · cases hv

mutual
theorem cast_ok : ∀ (s : Sh) {v v' : V} {u : Value}, VW w M h loc u v → cast v s = some v' → VW w M h loc u v'
  | .raw, v, v', u, hv, hc => by simp [cast] at hc; subst hc; exact hv
  | .bool, v, v', u, hv, hc => by
    simp only [cast, Option.bind_eq_some_iff, Option.some.injEq] at hc
    obtain ⟨b, ⟨c, h1, h2⟩, rfl⟩ := hc
    rw [unC_ok h1, fBool_ok h2] at hv; exact hv
  | .int, v, v', u, hv, hc => by
    simp only [cast, Option.bind_eq_some_iff, Option.some.injEq] at hc
    obtain ⟨b, ⟨c, h1, h2⟩, rfl⟩ := hc
    rw [unC_ok h1, fInt_ok h2] at hv; exact hv
  | .u8, v, v', u, hv, hc => by
    simp only [cast, Option.bind_eq_some_iff, Option.some.injEq] at hc
    obtain ⟨b, ⟨c, h1, h2⟩, rfl⟩ := hc
    rw [unC_ok h1, fU8_ok h2] at hv; exact hv
  | .str, v, v', u, hv, hc => by
    simp only [cast, Option.bind_eq_some_iff, Option.some.injEq] at hc
    obtain ⟨b, ⟨c, h1, h2⟩, rfl⟩ := hc
    rw [unC_ok h1, fStr_ok h2] at hv; exact hv
  | .sl k, v, v', u, hv, hc => by
    simp only [cast, Option.bind_eq_some_iff, Option.some.injEq] at hc
    obtain ⟨b, ⟨c, h1, h2⟩, rfl⟩ := hc
    obtain ⟨t, h2⟩ := fSl_ok h2
    rw [unC_ok h1, h2] at hv
    unfold VW at hv ⊢
    exact hv.loose
  | .el k, v, v', u, hv, hc => by
    simp only [cast, Option.bind_eq_some_iff, Option.some.injEq] at hc
    obtain ⟨x, h1, rfl⟩ := hc
    obtain ⟨fs, rfl, hk⟩ := asEl_ok h1
    exact hv.ofWk hk
  | .cert, v, v', u, hv, hc => by
    simp only [cast, Option.bind_eq_some_iff, Option.some.injEq] at hc
    obtain ⟨x, h1, rfl⟩ := hc
    obtain ⟨fs, rfl, hk⟩ := asCert_ok h1
    exact hv.ofWk hk
  | .client, v, v', u, hv, hc => by
    simp only [cast, Option.bind_eq_some_iff, Option.some.injEq] at hc
    obtain ⟨x, h1, rfl⟩ := hc
    obtain ⟨fs, rfl, hk⟩ := asClient_ok h1
    exact hv.ofWk hk
  | .server, v, v', u, hv, hc => by
    simp only [cast, Option.bind_eq_some_iff, Option.some.injEq] at hc
    obtain ⟨x, h1, rfl⟩ := hc
    obtain ⟨fs, rfl, hk⟩ := asServer_ok h1
    exact hv.ofWk hk
  | .tt, v, v', u, hv, hc => by
    simp only [cast, Option.bind_eq_some_iff, Option.some.injEq] at hc
    obtain ⟨x, h1, rfl⟩ := hc
    unfold asTt at h1
    split at h1
    · simp only [Option.some.injEq] at h1
      subst h1
      exact hv
    · cases h1
  | .world, v, v', u, hv, hc => by
    simp only [cast, Option.bind_eq_some_iff, Option.some.injEq] at hc
    obtain ⟨x, h1, rfl⟩ := hc
    obtain ⟨fs, rfl, hk⟩ := asWorld_ok h1
    exact hv.ofWk hk
  | .tup l, v, v', u, hv, hc => by
    simp only [cast, Option.bind_eq_some_iff, Option.some.injEq] at hc
    obtain ⟨_, h0, vs, h1, rfl⟩ := hc
    unfold fTup at h0
    split at h0
    · rename_i ws
      cases hb : Nat.beq ws.length l.length with
      | false => rw [hb] at h0; simp at h0
      | true =>
        unfold VW at hv ⊢
        obtain ⟨us, e, hs⟩ := hv
        exact ⟨us, e, casts_ok l 0 (by simpa using hs) (by have := Nat.eq_of_beq_eq_true hb; simp; omega) h1⟩
    · cases h0
  | .bx id off, v, v', u, hv, hc => by
    simp only [cast, Option.bind_eq_some_iff, Option.some.injEq] at hc
    obtain ⟨b, ⟨c, h1, h2⟩, rfl⟩ := hc
    rw [unC_ok h1, fBx_ok h2] at hv; exact hv
  | .row id k, v, v', u, hv, hc => by
    simp only [cast, Option.bind_eq_some_iff, Option.some.injEq] at hc
    obtain ⟨b, ⟨c, h1, h2⟩, rfl⟩ := hc
    rw [unC_ok h1, fRow_ok h2] at hv; exact hv
  | .err, v, v', u, hv, hc => by
    simp only [cast, Option.bind_eq_some_iff, Option.some.injEq] at hc
    obtain ⟨b, ⟨c, h1, h2⟩, rfl⟩ := hc
    rw [unC_ok h1, fErr_ok h2] at hv; exact hv
theorem casts_ok : ∀ (l : List Sh) (j : Nat) {ws : List V} {vs : List V} {us : List Value}, VWs w M h loc us (ws.drop j) → l.length = (ws.drop j).length → casts (.tup ws) j l = some vs → VWs w M h loc us vs
  | [], j, ws, vs, us, hv, hl, hc => by
    simp [casts] at hc
    subst hc
    have : ws.drop j = [] := List.eq_nil_of_length_eq_zero (by simpa using hl.symm)
    rw [this] at hv
    exact hv
  | s :: l, j, ws, vs, us, hv, hl, hc => by
    simp only [casts, Option.bind_eq_some_iff, Option.some.injEq] at hc
    obtain ⟨x, hx, y, hy, ys, hys, rfl⟩ := hc
    simp only [Go.Vm.part] at hx
    have hd : ws.drop j = x :: ws.drop (j + 1) := by
      have hlt := (List.getElem?_eq_some_iff.1 hx)
      obtain ⟨h1, h2⟩ := hlt
      rw [List.drop_eq_getElem_cons h1, h2]
    rw [hd] at hv hl
    match us, hv with
    | [], hv => unfold VWs at hv; exact hv.elim
    | u :: us, hv =>
      unfold VWs at hv ⊢
      exact ⟨cast_ok s hv.1 hy, casts_ok l (j + 1) hv.2 (by simpa using hl) hys⟩
end

end
end Go.Vm

namespace Go.Vm
variable {G : Gl}
set_option linter.unusedVariables false
set_option linter.unusedSimpArgs false

/-- What leaves a call: the objects that were handed in, the new ones. -/
def outHp (os ns : List Obj) : Hp := fun i => match hpOf .arg 0 os i with | some o => some o | none => hpOf (.ret 0) 0 ns i

/-- What a call does, whatever memory is around. -/
def CallOK (G : Gl) (P : Program) (f : FuncId) (args : List V) (objs : List Obj) (r : V × List Obj × List Obj) : Prop :=
  ∀ U loc w (vs : List Value), HW G U (hpOf .arg 0 objs) loc w → VWs w (Mut U (hpOf .arg 0 objs) loc) (hpOf .arg 0 objs) loc vs args →
    Calls P f vs.toArray w fun e w' => ∃ u loc', e = .returned u ∧ PostV G U (hpOf .arg 0 objs) loc w (outHp r.2.1 r.2.2) r.1 u w' loc'

structure FnOK (G : Gl) (P : Program) (f : FuncId) (args : List V) (objs : List Obj) (r : V × List Obj × List Obj) : Prop where
  fn : ∃ fn c, P.funcs[f]? = some fn ∧ fn.body = some c ∧ (fn.name == "runtime.NumGoroutine") = false
  len : r.2.1.length = objs.length
  calls : CallOK G P f args objs r

def TOK (G : Gl) (P : Program) (T : CallSem) : Prop := ∀ f args objs r, T f args objs = some r → FnOK G P f args objs r

section
variable {P : Program} {cfg : Cfg} {U : Nat → Prop} {h h' h2 : Hp} {loc loc' loc2 : Loc} {w w' : World} {a : Act} {fr : Fr} {M' : Nat → Prop}

/-! ### Frozen -/

theorem row_bound {M : Nat → Prop} {us : Array Value} {k : Kind} {l : List (El k)} {sz : Nat} (hz : us.size = sz * szOf k) (hl : l.length ≤ sz)
    (hc : ∀ i x j f, l[i]? = some x → (cellsOf k x)[j]? = some f → ∃ u n, us[i * szOf k + j]? = some u ∧ CellW w M n u f) :
    ∃ n, ∀ i x j f, l[i]? = some x → (cellsOf k x)[j]? = some f → ∃ u, us[i * szOf k + j]? = some u ∧ CellW w M n u f := by
  have h1 : CWs w M (fun _ => none) (fun _ => none) (us.toList.take (l.length * szOf k)) ((flat k l).map C.f) := row_cells (by rw [hz]; exact Nat.mul_le_mul_right _ hl) hc
  obtain ⟨n, hn⟩ := newTight_ok.CWs.bound h1
  refine ⟨n, fun i x j f hx hf => ?_⟩
  have hg := flat_get k l i j x f hx hf
  obtain ⟨u, hu, _⟩ := h1.get (j := i * szOf k + j) (c := .f f) (by rw [List.getElem?_map, hg]; rfl)
  refine ⟨u, ?_, hn _ u f hu (by rw [List.getElem?_map, hg]; rfl)⟩
  rw [List.getElem?_take] at hu
  split at hu
  · simpa using hu
  · cases hu

theorem boxEl_ok {fs : List F} : ∀ {l : List Kind} {p : (k : Kind) × El k}, boxEl fs l = some p → Wk fs (cellsOf p.1 p.2)
  | [], p, hp => by cases hp
  | k :: l, p, hp => by
    unfold boxEl at hp
    split at hp
    · rename_i x hx
      simp at hp; subst hp
      exact ofCells_wk hx
    · exact boxEl_ok hp

/-- Frozen cells, to one depth. -/
theorem CWs.depth {w : World} {M : Nat → Prop} {h : Hp} {loc : Loc} : ∀ {fs : List F} {us : List Value}, CWs w M h loc us (fs.map C.f) → ∃ n, ∀ (j : Nat) (u : Value) (f : F), us[j]? = some u → fs[j]? = some f → CellW w M n u f
  | [], us, hc => ⟨0, fun j u f hu hf => by simp at hf⟩
  | f :: fs, [], hc => by unfold CWs at hc; exact hc.elim
  | f :: fs, u :: us, hc => by
    simp only [List.map_cons] at hc
    unfold CWs at hc
    obtain ⟨n, hn⟩ := CWs.depth hc.2
    have h1 := hc.1
    unfold CW at h1
    obtain ⟨m, hm⟩ := h1
    refine ⟨max n m, fun j v g hv hg => ?_⟩
    cases j with
    | zero => simp at hv hg; subst hv hg; exact hm.le (Nat.le_max_right _ _)
    | succ j => exact (hn j v g (by simpa using hv) (by simpa using hg)).le (Nat.le_max_left _ _)

theorem CWs.len {w : World} {M : Nat → Prop} {h : Hp} {loc : Loc} : ∀ {cs : List C} {us : List Value}, CWs w M h loc us cs → us.length = cs.length
  | [], [], _ => rfl
  | [], _ :: _, hc => by unfold CWs at hc; exact hc.elim
  | c :: cs, [], hc => by unfold CWs at hc; exact hc.elim
  | c :: cs, u :: us, hc => by unfold CWs at hc; simp [CWs.len hc.2]

theorem snapB_ok (hw : HW G U h loc w) (hM : ∀ b, M' b → Mut U h loc b) {c c' : C} {v : Value} (hr : ∀ id ∈ refsC c, ∀ o b k, h id = some o → o.live = true → loc id = some (b, k) → ¬ M' b)
    (hs : snapB h c = some c') (hc : CW w (Mut U h loc) h loc v c) : CW w M' h2 loc2 v c' := by
  unfold snapB at hs
  split at hs
  · simp at hs; subst hs
    unfold CW at hc ⊢
    obtain ⟨n, hn⟩ := hc
    exact ⟨n, hn.mono hM⟩
  · rename_i id off
    rw [Option.bind_eq_some_iff] at hs
    obtain ⟨o, ho, hs⟩ := hs
    split at hs
    · rename_i cs
      simp only [Option.bind_eq_some_iff, Option.some.injEq] at hs
      obtain ⟨fs, hfs, p, hp, rfl⟩ := hs
      obtain rfl := lmapM_frz hfs
      unfold CW at hc
      obtain ⟨_, b, cc, hloc, rfl⟩ := hc
      obtain ⟨b2, cc2, us, T, hl2, hb, hcw⟩ := hw.obj id _ ho
      rw [hloc] at hl2
      simp at hl2
      obtain ⟨rfl, rfl⟩ := hl2
      have hwk := hcw.wk (boxEl_ok hp)
      obtain ⟨n, hn⟩ := hwk.depth
      unfold CW
      refine ⟨n + 1, b, 0, by rw [Nat.zero_add], hr id (by simp [refsC]) _ b cc ho rfl hloc, (hw.sep id _ b cc ho rfl hloc).2, fun j f hf => ?_⟩
      have hlt : j < us.toList.length := by
        rw [hwk.len, List.length_map]
        exact (List.getElem?_eq_some_iff.1 hf).1
      refine ⟨us.toList[j], ?_, (hn j _ f (List.getElem?_eq_getElem hlt) hf).mono hM⟩
      rw [cell_heap hb, Nat.zero_add, ← Array.getElem?_toList, List.getElem?_eq_getElem hlt]
    · simp at hs
  · simp at hs

theorem snapBs_ok (hw : HW G U h loc w) (hM : ∀ b, M' b → Mut U h loc b) : ∀ {cs cs' : List C} {vs : List Value} (hr : ∀ id ∈ refsCs cs, ∀ o b k, h id = some o → o.live = true → loc id = some (b, k) → ¬ M' b),
    lmapM (snapB h) cs = some cs' → CWs w (Mut U h loc) h loc vs cs → CWs w M' h2 loc2 vs cs'
  | [], cs', vs, hr, hs, hc => by
    simp [lmapM] at hs; subst hs
    match vs, hc with
    | [], _ => unfold CWs; trivial
    | _ :: _, hc => unfold CWs at hc; exact hc.elim
  | c :: cs, cs', [], hr, hs, hc => by unfold CWs at hc; exact hc.elim
  | c :: cs, cs', v :: vs, hr, hs, hc => by
    simp only [lmapM, Option.bind_eq_some_iff, Option.some.injEq] at hs
    obtain ⟨d, hd, r, hr2, rfl⟩ := hs
    unfold CWs at hc ⊢
    exact ⟨snapB_ok hw hM (fun id hid => hr id (by simp [refsCs, hid])) hd hc.1, snapBs_ok hw hM (fun id hid => hr id (by simp [refsCs, hid])) hr2 hc.2⟩

/-- A snapshot holds where the blocks it looks at may not be written. -/
theorem snapC_ok (hw : HW G U h loc w) (hM : ∀ b, M' b → Mut U h loc b) {c c' : C} {v : Value} (hr : ∀ id ∈ refsC c, ∀ o b k, h id = some o → o.live = true → loc id = some (b, k) → ¬ M' b)
    (hs : snapC h c = some c') (hc : CW w (Mut U h loc) h loc v c) : CW w M' h2 loc2 v c' := by
  unfold snapC at hs
  split at hs
  · simp at hs; subst hs
    unfold CW at hc ⊢
    obtain ⟨n, hn⟩ := hc
    exact ⟨n, hn.mono hM⟩
  · rename_i id k
    rw [Option.bind_eq_some_iff] at hs
    obtain ⟨o, ho, hs⟩ := hs
    split at hs
    · rename_i wr k2 l
      by_cases hk : k2 = k
      · simp [hk] at hs
        subst hs
        unfold CW at hc ⊢
        obtain ⟨_, _, hrow⟩ := hc
        obtain ⟨rfl, hown, htight⟩ := hrow _ _ _ ho
        cases hloc : loc id with
        | none =>
          obtain ⟨n, hn⟩ := htight hloc
          cases n with
          | zero => exact hn.elim
          | succ n => exact ⟨n + 1, (CellW.mono hM hn).loose⟩
        | some bc =>
          obtain ⟨b, cc⟩ := bc
          obtain rfl := hown b cc hloc
          obtain ⟨us, T, hb, hus, hlc, hcells⟩ := (hw.obj id _ ho).2 b cc hloc
          obtain ⟨n, hn⟩ := row_bound hus hlc hcells
          refine ⟨n + 1, _, _, rfl, hlc, fun hh => by simp at hh, fun i x hx => ⟨b, 0, rfl, hr id (by simp [refsC]) _ b cc ho rfl hloc, (hw.sep id _ b cc ho rfl hloc).2, fun j f hf => ?_⟩⟩
          obtain ⟨u, hu, hcw⟩ := hn i x j f hx hf
          exact ⟨u, by rw [cell_heap hb, Nat.zero_add]; exact hu, hcw.mono hM⟩
      · simp [hk] at hs
    · simp at hs
  · rename_i id k i off
    rw [Option.bind_eq_some_iff] at hs
    obtain ⟨o, ho, hs⟩ := hs
    split at hs
    · rename_i wr k2 l
      by_cases hk : k2 = k
      · simp only [hk, decide_true, cond_true, Option.bind_eq_some_iff, Option.some.injEq] at hs
        obtain ⟨x, hx, rfl⟩ := hs
        unfold CW at hc ⊢
        obtain ⟨_, hkk, b, cc, hloc, rfl⟩ := hc
        have := hkk _ _ _ ho
        subst this
        obtain ⟨us, T, hb, hus, hlc, hcells⟩ := (hw.obj id _ ho).2 b cc hloc
        obtain ⟨n, hn⟩ := row_bound hus hlc hcells
        refine ⟨n + 1, b, i * szOf k2, rfl, hr id (by simp [refsC]) _ b cc ho rfl hloc, (hw.sep id _ b cc ho rfl hloc).2, fun j f hf => ?_⟩
        obtain ⟨u, hu, hcw⟩ := hn i x j f hx hf
        exact ⟨u, by rw [cell_heap hb]; exact hu, hcw.mono hM⟩
      · simp [hk] at hs
    · simp at hs
  · rename_i id off
    exact snapB_ok hw hM hr hs hc
  · rename_i f caps
    simp only [Option.map_eq_some_iff] at hs
    obtain ⟨l, hl, rfl⟩ := hs
    unfold CW at hc ⊢
    obtain ⟨us, hv, hs⟩ := hc
    exact ⟨us, hv, snapBs_ok hw hM (fun id hid => hr id (by simpa [refsC] using hid)) hl hs⟩
  · simp at hs; subst hs
    unfold CW at hc ⊢
    exact hc
  · simp at hs

theorem snapCs_ok (hw : HW G U h loc w) (hM : ∀ b, M' b → Mut U h loc b) : ∀ {cs cs' : List C} {vs : List Value} (hr : ∀ id ∈ refsCs cs, ∀ o b k, h id = some o → o.live = true → loc id = some (b, k) → ¬ M' b),
    lmapM (snapC h) cs = some cs' → CWs w (Mut U h loc) h loc vs cs → CWs w M' h2 loc2 vs cs'
  | [], cs', vs, hr, hs, hc => by
    simp [lmapM] at hs; subst hs
    match vs, hc with
    | [], _ => unfold CWs; trivial
    | _ :: _, hc => unfold CWs at hc; exact hc.elim
  | c :: cs, cs', [], hr, hs, hc => by unfold CWs at hc; exact hc.elim
  | c :: cs, cs', v :: vs, hr, hs, hc => by
    simp only [lmapM, Option.bind_eq_some_iff, Option.some.injEq] at hs
    obtain ⟨d, hd, r, hr2, rfl⟩ := hs
    unfold CWs at hc ⊢
    exact ⟨snapC_ok hw hM (fun id hid => hr id (by simp [refsCs, hid])) hd hc.1, snapCs_ok hw hM (fun id hid => hr id (by simp [refsCs, hid])) hr2 hc.2⟩

theorem CW.lo {w : World} {M : Nat → Prop} {h : Hp} {loc : Loc} {v : Value} : ∀ {c : C}, CW w M h loc v c → CW w M h loc v (loC c)
  | .f (.sl t k l), hc => hc.loose
  | .f (.sc _), hc => hc
  | .f (.ep _ _ _), hc => hc
  | .f .err, hc => hc
  | .bx _ _, hc => hc
  | .row _ _, hc => hc
  | .re _ _ _ _, hc => hc
  | .fn _ _, hc => hc
  | .hole, hc => hc
  | .und, hc => hc

theorem CWs.lo {w : World} {M : Nat → Prop} {h : Hp} {loc : Loc} : ∀ {cs : List C} {vs : List Value}, CWs w M h loc vs cs → CWs w M h loc vs (cs.map loC)
  | [], [], hc => hc
  | [], _ :: _, hc => hc
  | _ :: _, [], hc => hc
  | c :: cs, v :: vs, hc => by
    unfold CWs at hc
    simp only [List.map_cons]
    unfold CWs
    exact ⟨hc.1.lo, CWs.lo hc.2⟩

theorem snapV_ok (hw : HW G U h loc w) (hM : ∀ b, M' b → Mut U h loc b) {v v' : V} {u : Value} (hr : ∀ id ∈ refsV v, ∀ o b k, h id = some o → o.live = true → loc id = some (b, k) → ¬ M' b)
    (hs : snapV h v = some v') (hc : VW w (Mut U h loc) h loc u v) : VW w M' h2 loc2 u v' := by
  cases v with
  | c x =>
    simp only [snapV, Option.map_eq_some_iff] at hs
    obtain ⟨d, hd, rfl⟩ := hs
    unfold VW at hc ⊢
    exact (snapC_ok hw hM (by simpa [refsV] using hr) hd hc).lo
  | agg cs =>
    simp only [snapV, Option.map_eq_some_iff] at hs
    obtain ⟨d, hd, rfl⟩ := hs
    unfold VW at hc ⊢
    obtain ⟨us, e, hcs⟩ := hc
    exact ⟨us, e, (snapCs_ok hw hM (by simpa [refsV] using hr) hd hcs).lo⟩
  | tup vs => simp [snapV] at hs

theorem snapVs_ok (hw : HW G U h loc w) (hM : ∀ b, M' b → Mut U h loc b) : ∀ {cs cs' : List V} {vs : List Value} (hr : ∀ id ∈ refsVs cs, ∀ o b k, h id = some o → o.live = true → loc id = some (b, k) → ¬ M' b),
    lmapM (snapV h) cs = some cs' → VWs w (Mut U h loc) h loc vs cs → VWs w M' h2 loc2 vs cs'
  | [], cs', vs, hr, hs, hc => by
    simp [lmapM] at hs; subst hs
    match vs, hc with
    | [], _ => unfold VWs; trivial
    | _ :: _, hc => unfold VWs at hc; exact hc.elim
  | c :: cs, cs', [], hr, hs, hc => by unfold VWs at hc; exact hc.elim
  | c :: cs, cs', v :: vs, hr, hs, hc => by
    simp only [lmapM, Option.bind_eq_some_iff, Option.some.injEq] at hs
    obtain ⟨d, hd, r, hr2, rfl⟩ := hs
    unfold VWs at hc ⊢
    exact ⟨snapV_ok hw hM (fun id hid => hr id (by simp [refsVs, hid])) hd hc.1, snapVs_ok hw hM (fun id hid => hr id (by simp [refsVs, hid])) hr2 hc.2⟩

/-- What comes back frozen. -/
theorem frzBack_ok (hw : HW G U h loc w) {v v' : V} {u : Value} (hs : frzBack h v = some v') (hc : VW w (Mut U h loc) h loc u v) : VW w U h2 loc2 u v' := by
  have hM : ∀ b, U b → Mut U h loc b := fun b hb => .inl hb
  have hr : ∀ id, ∀ o b k, h id = some o → o.live = true → loc id = some (b, k) → ¬ U b := fun id o b k ho hl hlo => (hw.sep id o b k ho hl hlo).1
  cases v with
  | c x =>
    simp only [frzBack, Option.map_eq_some_iff] at hs
    obtain ⟨d, hd, rfl⟩ := hs
    unfold VW at hc ⊢
    exact snapC_ok hw hM (fun id _ => hr id) hd hc
  | agg cs =>
    simp only [frzBack, Option.map_eq_some_iff] at hs
    obtain ⟨d, hd, rfl⟩ := hs
    unfold VW at hc ⊢
    obtain ⟨us, e, hcs⟩ := hc
    exact ⟨us, e, snapCs_ok hw hM (fun id _ => hr id) hd hcs⟩
  | tup vs =>
    simp only [frzBack, Option.map_eq_some_iff] at hs
    obtain ⟨d, hd, rfl⟩ := hs
    unfold VW at hc ⊢
    obtain ⟨us, e, hcs⟩ := hc
    refine ⟨us, e, ?_⟩
    clear e
    induction vs generalizing d us with
    | nil =>
      simp [lmapM] at hd; subst hd
      match us, hcs with
      | [], _ => unfold VWs; trivial
      | _ :: _, hcs => unfold VWs at hcs; exact hcs.elim
    | cons y ys ih =>
      match us, hcs with
      | [], hcs => unfold VWs at hcs; exact hcs.elim
      | u :: us, hcs =>
        simp only [lmapM, Option.bind_eq_some_iff, Option.some.injEq] at hd
        obtain ⟨z, hz, r, hr2, rfl⟩ := hd
        unfold VWs at hcs ⊢
        refine ⟨?_, ih r hr2 us hcs.2⟩
        have h1 := hcs.1
        cases y with
        | c x =>
          simp only [Option.map_eq_some_iff] at hz
          obtain ⟨d, hd, rfl⟩ := hz
          unfold VW at h1 ⊢
          exact snapC_ok hw hM (fun id _ => hr id) hd h1
        | agg cs =>
          simp only [Option.map_eq_some_iff] at hz
          obtain ⟨d, hd, rfl⟩ := hz
          unfold VW at h1 ⊢
          obtain ⟨us, e, hcs⟩ := h1
          exact ⟨us, e, snapCs_ok hw hM (fun id _ => hr id) hd hcs⟩
        | tup vs => simp at hz

/-! ### Memory that only grows -/

theorem Ext.grow (hs : w.heap.size ≤ w'.heap.size) (hb : ∀ b, b < w.heap.size → w'.heap[b]? = w.heap[b]?) (h1 : w'.os = w.os) (h2 : w'.tape = w.tape) (h3 : w'.output = w.output) : Ext U h loc w h loc w' :=
  ⟨h1, h2, h3, ⟨hs, fun b hlt hm => ⟨hm, hb b hlt⟩⟩, fun _ _ _ => rfl, fun id o ho => ⟨o, ho, Turns.refl _ _ _⟩, fun b hlt _ => hb b hlt⟩

theorem HW.grow (hw : HW G U h loc w) (hs : w.heap.size ≤ w'.heap.size) (hb : ∀ b, b < w.heap.size → w'.heap[b]? = w.heap[b]?) (h1 : w'.os = w.os) (h2 : w'.tape = w.tape) (h3 : w'.output = w.output) : HW G U h loc w' :=
  hw.step (Ext.grow hs hb h1 h2 h3) (fun id o ho => .inl ⟨ho, fun _ => rfl, fun b c hl hlo => hb b (hw.sep id o b c ho hl hlo).2⟩) hw.inj
    (fun id o b c ho hl hlo => ⟨(hw.sep id o b c ho hl hlo).1, Nat.lt_of_lt_of_le (hw.sep id o b c ho hl hlo).2 hs⟩)

theorem noRefs_ok {args : List V} (hn : noRefs args = true) : refsVs args = [] := by
  unfold noRefs at hn
  split at hn
  · assumption
  · cases hn

theorem outHp_nil {ns : List Obj} : outHp [] ns = hpOf (.ret 0) 0 ns := by
  funext i
  simp [outHp, hpOf]

theorem HW.empty {U : Nat → Prop} {loc : Loc} {w : World} (hl : ∀ b, U b → b < w.heap.size) (hg : G.In U (hpOf .arg 0 []) loc w) : HW G U (hpOf .arg 0 []) loc w :=
  ⟨fun id o ho => by simp [hpOf] at ho, fun id id' o o' b c c' ho => by simp [hpOf] at ho, fun id o b c ho => by simp [hpOf] at ho, hl, hg⟩

/-- A callee that is handed no memory. -/
theorem pcall_ok {T : CallSem} (hT : TOK G P T) (hw : HW G U h loc w) {f : FuncId} {us : List Value} {args : List V} {sh : Sh} {v : V} (hargs : VWs w (Mut U h loc) h loc us args) (hc : pcall T h f args sh = some v) :
    (∃ fn c, P.funcs[f]? = some fn ∧ fn.body = some c ∧ (fn.name == "runtime.NumGoroutine") = false) ∧ Calls P f us.toArray w fun e w' => ∃ u, e = .returned u ∧ PostV G U h loc w h v u w' loc := by
  unfold pcall at hc
  rw [Option.bind_eq_some_iff] at hc
  obtain ⟨as, has, hc⟩ := hc
  rw [Option.bind_eq_some_iff] at hc
  obtain ⟨v1, hv1, hc⟩ := hc
  rw [Option.bind_eq_some_iff] at hc
  obtain ⟨v2, hv2, hc⟩ := hc
  unfold pres at hv1
  rw [Option.bind_eq_some_iff] at hv1
  obtain ⟨r, hr, hv1⟩ := hv1
  have hf := hT _ _ _ _ hr
  refine ⟨hf.fn, ?_⟩
  have hos : r.2.1 = [] := List.eq_nil_of_length_eq_zero (by simpa using hf.len)
  have core : ∀ M' : Nat → Prop, (∀ b, U b → M' b) → (∀ b, M' b → Mut U h loc b) → (∀ b, Mut U h loc b → M' b ∨ ∃ id ∈ refsVs args, ∃ o c, h id = some o ∧ o.live = true ∧ loc id = some (b, c)) →
      (∀ id ∈ refsVs args, ∀ o b k, h id = some o → o.live = true → loc id = some (b, k) → ¬ M' b) →
      Calls P f us.toArray w fun e w' => ∃ u, e = .returned u ∧ VW w' M' h loc u v2 ∧ HW G U h loc w' ∧ Ext U h loc w h loc w' := by
    intro M' hMU hM hM2 hrr
    have hmm0 : ∀ (M' : Nat → Prop) b, Mut M' (hpOf .arg 0 []) loc b → M' b := fun M' b hb => hb.elim (fun h => h) (fun ⟨id, o, c, ho, _⟩ => by simp [hpOf] at ho)
    have hE : HW G M' (hpOf .arg 0 []) loc w := HW.empty (fun b hb => hw.mutLow (hM b hb)) ⟨hw.gl.1, fun b hb => ⟨(hw.gl.2 b hb).1, (hw.gl.2 b hb).2.elim (fun h => .inl (hMU b h)) (fun h => .inr fun hm => h (hM b (hmm0 M' b hm)))⟩⟩
    have hmm : ∀ b, Mut M' (hpOf .arg 0 []) loc b ↔ M' b := fun b => ⟨fun hb => hb.elim (fun h => h) (fun ⟨id, o, c, ho, _⟩ => by simp [hpOf] at ho), fun hb => .inl hb⟩
    have hargs2 : VWs w (Mut M' (hpOf .arg 0 []) loc) (hpOf .arg 0 []) loc us as := by
      refine snapVs_ok (M' := Mut M' (hpOf .arg 0 []) loc) hw (fun b hb => hM b ((hmm b).1 hb)) (fun id hid o b k ho hl hlo hb => hrr id hid o b k ho hl hlo ((hmm b).1 hb)) has hargs
    refine (hf.calls M' loc w us hE hargs2).mono fun e w' => ?_
    rintro ⟨u, loc', rfl, hw', hex, hv⟩
    rw [hos, outHp_nil] at hw' hex hv
    have hv' : VW w' M' h loc u v1 := frzBack_ok hw' hv1 hv
    have hall : ∀ b, b < w.heap.size → w'.heap[b]? = w.heap[b]? := fun b hb => by
      by_cases hm : M' b
      · exact hex.old b hb hm
      · exact (hex.keeps.same b hb (fun h => hm ((hmm b).1 h))).2
    exact ⟨u, rfl, cast_ok sh hv' hv2, hw.grow hex.keeps.size hall hex.os hex.tape hex.output, Ext.grow hex.keeps.size hall hex.os hex.tape hex.output⟩
  cases hn : noRefs args with
  | true =>
    have hne := noRefs_ok hn
    rw [hn] at hc
    simp at hc
    subst hc
    refine (core (Mut U h loc) (fun b hb => .inl hb) (fun b hb => hb) (fun b hb => .inl hb) (fun id hid => by rw [hne] at hid; simp at hid)).mono fun e w' => ?_
    rintro ⟨u, rfl, hv, hw', hex⟩
    exact ⟨u, rfl, hw', hex, hv⟩
  | false =>
    cases hfl : flatV v2 with
    | false => rw [hn, hfl] at hc; simp at hc
    | true =>
      rw [hn, hfl] at hc
      simp at hc
      subst hc
      refine (core (fun b => Mut U h loc b ∧ ¬ ∃ id ∈ refsVs args, ∃ o c, h id = some o ∧ o.live = true ∧ loc id = some (b, c)) (fun b hb => ⟨.inl hb, fun ⟨id, _, o, c, ho, hl, hlo⟩ => (hw.sep id o b c ho hl hlo).1 hb⟩) (fun b hb => hb.1) (fun b hb => ?_) (fun id hid o b k ho hl hlo hb => hb.2 ⟨id, hid, o, k, ho, hl, hlo⟩)).mono fun e w' => ?_
      · by_cases hx : ∃ id ∈ refsVs args, ∃ o c, h id = some o ∧ o.live = true ∧ loc id = some (b, c)
        · exact .inr hx
        · exact .inl ⟨hb, hx⟩
      · rintro ⟨u, rfl, hv, hw', hex⟩
        exact ⟨u, rfl, hw', hex, flatV_ok hfl hv⟩

end
end Go.Vm

namespace Go.Vm
variable {G : Gl}
set_option linter.unusedVariables false
set_option linter.unusedSimpArgs false

section
variable {P : Program} {cfg : Cfg} {U : Nat → Prop} {h h' h2 : Hp} {loc loc' loc2 : Loc} {w w' : World} {a : Act} {fr : Fr} {M' : Nat → Prop}

/-- What the caller keeps to itself. -/
def Priv (U : Nat → Prop) (h : Hp) (loc : Loc) (ids : List Id) (b : Nat) : Prop :=
  U b ∨ ∃ id o c, h id = some o ∧ o.live = true ∧ loc id = some (b, c) ∧ id ∉ ids

/-- Where the callee finds what it is handed. -/
def argLoc (loc : Loc) (ids : List Id) : Loc := fun i => match i with | .arg j => (ids[j]?).bind loc | _ => none

theorem hand_heap {ids : List Id} {os : List Obj} {m : List (Id × Id)} (hg : getAll h ids = some os) {b : Id} {o' : Obj} (hb : hpOf .arg 0 (os.map (renO m)) b = some o') :
    ∃ j i o, b = .arg j ∧ ids[j]? = some i ∧ h i = some o ∧ o' = renO m o := by
  obtain ⟨j, rfl, hj⟩ := hpOf_some hb
  obtain ⟨h1, h2⟩ := getAll_some hg
  rw [List.getElem?_map, Option.map_eq_some_iff] at hj
  obtain ⟨o, ho, rfl⟩ := hj
  have hlt : j < ids.length := by rw [← h1]; exact (List.getElem?_eq_some_iff.1 ho).1
  obtain ⟨o2, ho2, ho3⟩ := h2 j ids[j] (List.getElem?_eq_getElem hlt)
  rw [ho] at ho3
  obtain rfl := Option.some.inj ho3
  exact ⟨j, ids[j], o, by simp, List.getElem?_eq_getElem hlt, ho2, rfl⟩

theorem hand_get {ids : List Id} {os : List Obj} {m : List (Id × Id)} (hg : getAll h ids = some os) {j : Nat} {i : Id} (hj : ids[j]? = some i) :
    ∃ o, h i = some o ∧ hpOf .arg 0 (os.map (renO m)) (.arg j) = some (renO m o) := by
  obtain ⟨h1, h2⟩ := getAll_some hg
  obtain ⟨o, ho, hos⟩ := h2 j i hj
  exact ⟨o, ho, by rw [hpOf_arg, List.getElem?_map, hos]; rfl⟩

theorem hand_ren {ids : List Id} {os : List Obj} (hd : distinct ids = true) (hg : getAll h ids = some os) :
    Ren (numFrom .arg 0 ids) h loc (hpOf .arg 0 (os.map (renO (numFrom .arg 0 ids)))) (argLoc loc ids) := by
  refine ⟨fun i b o hl ho => ?_⟩
  obtain ⟨j, hj, rfl⟩ := look_numFrom hl
  obtain ⟨o2, ho2, hh⟩ := hand_get (m := numFrom .arg 0 ids) hg hj
  rw [ho] at ho2
  obtain rfl := Option.some.inj ho2
  rw [Nat.zero_add]
  exact ⟨_, hh, renO_same o, by simp [argLoc, hj]⟩

theorem hand_src {ids : List Id} {os : List Obj} (hd : distinct ids = true) (hg : getAll h ids = some os) :
    Src' (numFrom .arg 0 ids) h loc (hpOf .arg 0 (os.map (renO (numFrom .arg 0 ids)))) (argLoc loc ids) := by
  intro b o' blk c hb hl hlo
  obtain ⟨j, i, o, rfl, hj, ho, rfl⟩ := hand_heap hg hb
  refine ⟨i, o, by have := look_numFrom_get (mk := Id.arg) (n := 0) hd hj; rw [Nat.zero_add] at this; exact this, ho, ?_, by simpa [argLoc, hj] using hlo⟩
  rw [← hl, (renO_same o).live]

theorem priv_mut {ids : List Id} : ∀ b, Priv U h loc ids b → Mut U h loc b := by
  rintro b (hu | ⟨id, o, c, ho, hl, hlo, _⟩)
  · exact .inl hu
  · exact .inr ⟨id, o, c, ho, hl, hlo⟩

theorem hand_mut {ids : List Id} {os : List Obj} (hd : distinct ids = true) (hg : getAll h ids = some os) (b : Nat) :
    Mut (Priv U h loc ids) (hpOf .arg 0 (os.map (renO (numFrom .arg 0 ids)))) (argLoc loc ids) b ↔ Mut U h loc b := by
  constructor
  · exact Mut.ren priv_mut (hand_src hd hg) b
  · rintro (hu | ⟨id, o, c, ho, hl, hlo⟩)
    · exact .inl (.inl hu)
    · by_cases hid : id ∈ ids
      · obtain ⟨j, hj⟩ := List.getElem?_of_mem hid
        obtain ⟨o2, ho2, hh⟩ := hand_get (m := numFrom .arg 0 ids) hg hj
        rw [ho] at ho2
        obtain rfl := Option.some.inj ho2
        exact .inr ⟨.arg j, _, c, hh, by rw [(renO_same o).live]; exact hl, by simp [argLoc, hj, hlo]⟩
      · exact .inl (.inr ⟨id, o, c, ho, hl, hlo, hid⟩)

theorem hand_hw (hw : HW G U h loc w) {ids : List Id} {os : List Obj} (hd : distinct ids = true) (hg : getAll h ids = some os) :
    HW G (Priv U h loc ids) (hpOf .arg 0 (os.map (renO (numFrom .arg 0 ids)))) (argLoc loc ids) w := by
  refine hw.ren (fun b hb => .inl hb) priv_mut (hand_src hd hg) ?_ ?_
  · intro i b o blk c hl ho hlv hlo hp
    obtain ⟨j, hj, rfl⟩ := look_numFrom hl
    rcases hp with hu | ⟨id, o2, c2, ho2, hl2, hlo2, hn⟩
    · exact (hw.sep i o blk c ho hlv hlo).1 hu
    · have := hw.inj i id o o2 blk c c2 ho hlv ho2 hl2 hlo hlo2
      subst this
      exact hn (List.mem_of_getElem? hj)
  · intro b o' hb
    obtain ⟨j, i, o, rfl, hj, ho, rfl⟩ := hand_heap hg hb
    exact OW.ren (hand_ren hd hg) (fun b hb => (hand_mut hd hg b).1 hb) (by simp [argLoc, hj]) (hw.obj i o ho)

/-- Memory is handed over. -/
theorem hand_ok (hw : HW G U h loc w) {f : FuncId} {us : List Value} {args : List V} {ids : List Id} {os : List Obj} {r : V × List Obj × List Obj} (hd : distinct ids = true) (hg : getAll h ids = some os) (hargs : VWs w (Mut U h loc) h loc us args)
    (hf : FnOK G P f (renVs (numFrom .arg 0 ids) args) (os.map (renO (numFrom .arg 0 ids))) r) :
    Calls P f us.toArray w fun e w' => ∃ u loc', e = .returned u ∧ PostV G (Priv U h loc ids) (hpOf .arg 0 (os.map (renO (numFrom .arg 0 ids)))) (argLoc loc ids) w (outHp r.2.1 r.2.2) r.1 u w' loc' :=
  hf.calls _ _ w us (hand_hw hw hd hg) (VWs.ren (hand_ren hd hg) (fun b hb => (hand_mut hd hg b).1 hb) args hargs)

/-! ### And handed back -/

theorem putAll_ne : ∀ {ids : List Id} {os : List Obj} {h h' : Hp}, putAll h ids os = some h' → ∀ i, i ∉ ids → h' i = h i
  | [], [], h, h', hp, i, _ => by simp [putAll] at hp; subst hp; rfl
  | [], _ :: _, h, h', hp, _, _ => by simp [putAll] at hp
  | _ :: _, [], h, h', hp, _, _ => by simp [putAll] at hp
  | x :: ids, o :: os, h, h', hp, i, hi => by
    simp only [putAll] at hp
    rw [putAll_ne hp i (fun h => hi (List.mem_cons_of_mem _ h)), hput_ne _ _ (fun e => hi (by rw [e]; exact List.mem_cons_self ..))]

theorem putAll_get : ∀ {ids : List Id} {os : List Obj} {h h' : Hp}, distinct ids = true → putAll h ids os = some h' → os.length = ids.length ∧ ∀ (j : Nat) (i : Id), ids[j]? = some i → h' i = os[j]?
  | [], [], h, h', _, hp => ⟨rfl, fun j i hi => by simp at hi⟩
  | [], _ :: _, h, h', _, hp => by simp [putAll] at hp
  | _ :: _, [], h, h', _, hp => by simp [putAll] at hp
  | x :: ids, o :: os, h, h', hd, hp => by
    simp only [putAll] at hp
    simp only [distinct, Bool.and_eq_true, Bool.not_eq_true'] at hd
    obtain ⟨h1, h2⟩ := putAll_get hd.2 hp
    refine ⟨by simp [h1], fun j i hi => ?_⟩
    cases j with
    | zero =>
      simp at hi; subst hi
      have hno : x ∉ ids := fun h => by rw [memId_iff.2 h] at hd; exact absurd hd.1 (by simp)
      rw [putAll_ne hp x hno, hput_self]
      rfl
    | succ j => simpa using h2 j i (by simpa using hi)

theorem fresh_none : ∀ {l : List Id}, fresh h l = true → ∀ i ∈ l, h i = none
  | [], _, i, hi => by simp at hi
  | x :: l, hf, i, hi => by
    simp only [fresh, Bool.and_eq_true] at hf
    rcases List.mem_cons.1 hi with rfl | hi
    · cases hx : h i with
      | none => rfl
      | some o => rw [hx] at hf; simp at hf
    · exact fresh_none hf.2 i hi

def retIds (d n : Nat) : List Id := (List.range n).map (Id.ret d)

theorem distinct_of : ∀ {l : List Id}, (∀ (i j : Nat) (x : Id), l[i]? = some x → l[j]? = some x → i = j) → distinct l = true
  | [], _ => rfl
  | y :: l, hh => by
    simp only [distinct, Bool.and_eq_true, Bool.not_eq_true']
    refine ⟨?_, distinct_of fun i j x hi hj => by have := hh (i + 1) (j + 1) x (by simpa using hi) (by simpa using hj); omega⟩
    cases hm : memId y l with
    | false => rfl
    | true =>
      obtain ⟨j, hj⟩ := List.getElem?_of_mem (memId_iff.1 hm)
      have := hh 0 (j + 1) y rfl (by simpa using hj)
      omega

theorem retIds_get {d n j : Nat} (hj : j < n) : (retIds d n)[j]? = some (.ret d j) := by simp [retIds, hj]

theorem retIds_mem {d n : Nat} {i : Id} : i ∈ retIds d n ↔ ∃ j, j < n ∧ i = .ret d j := by
  simp only [retIds, List.mem_map, List.mem_range]
  constructor
  · rintro ⟨j, h1, h2⟩; exact ⟨j, h1, h2.symm⟩
  · rintro ⟨j, h1, h2⟩; exact ⟨j, h1, h2.symm⟩

theorem retIds_distinct (d n : Nat) : distinct (retIds d n) = true := by
  refine distinct_of fun i j x hi hj => ?_
  have h1 : i < n := by simpa [retIds] using (List.getElem?_eq_some_iff.1 hi).1
  have h2 : j < n := by simpa [retIds] using (List.getElem?_eq_some_iff.1 hj).1
  rw [retIds_get h1] at hi
  rw [retIds_get h2] at hj
  rw [← hj] at hi
  simpa using hi

/-- Names handed back. -/
def backMap (ids : List Id) (d n : Nat) : List (Id × Id) := swap (numFrom .arg 0 ids) ++ (List.range n).map fun j => (Id.ret 0 j, Id.ret d j)

theorem look_append {m1 m2 : List (Id × Id)} {i : Id} : look (m1 ++ m2) i = (look m1 i).or (look m2 i) := by
  induction m1 with
  | nil => simp [look]
  | cons p m1 ih =>
    obtain ⟨x, y⟩ := p
    simp only [List.cons_append, look]
    cases Id.beq x i <;> simp [ih]

theorem look_swap {ids : List Id} : ∀ {n : Nat} {i b : Id}, look (swap (numFrom .arg n ids)) i = some b → ∃ j, i = .arg (n + j) ∧ ids[j]? = some b := by
  induction ids with
  | nil => intro n i b h; simp [swap, numFrom, look] at h
  | cons x ids ih =>
    intro n i b h
    simp only [swap, numFrom, List.map_cons, look] at h
    cases hb : Id.beq (Id.arg n) i with
    | true =>
      rw [hb] at h
      simp at h
      exact ⟨0, (Id.beq_true.1 hb).symm, by simp [h]⟩
    | false =>
      rw [hb] at h
      obtain ⟨j, h1, h2⟩ := ih h
      exact ⟨j + 1, by rw [h1]; congr 1; omega, by simpa using h2⟩

theorem look_rets {d : Nat} : ∀ {l : List Nat} {i b : Id}, look (l.map fun j => (Id.ret 0 j, Id.ret d j)) i = some b → ∃ j ∈ l, i = .ret 0 j ∧ b = .ret d j := by
  intro l
  induction l with
  | nil => intro i b h; simp [look] at h
  | cons x l ih =>
    intro i b h
    simp only [List.map_cons, look] at h
    cases hb : Id.beq (Id.ret 0 x) i with
    | true =>
      rw [hb] at h
      simp at h
      exact ⟨x, by simp, (Id.beq_true.1 hb).symm, h.symm⟩
    | false =>
      rw [hb] at h
      obtain ⟨j, h1, h2, h3⟩ := ih h
      exact ⟨j, by simp [h1], h2, h3⟩

theorem look_back {ids : List Id} {d n : Nat} {i b : Id} (hl : look (backMap ids d n) i = some b) : (∃ j, i = .arg j ∧ ids[j]? = some b) ∨ ∃ j, j < n ∧ i = .ret 0 j ∧ b = .ret d j := by
  unfold backMap at hl
  rw [look_append] at hl
  rcases Option.or_eq_some_iff.1 hl with h1 | ⟨_, h1⟩
  · obtain ⟨j, h2, h3⟩ := look_swap h1
    exact .inl ⟨j, by rw [h2]; simp, h3⟩
  · obtain ⟨j, h2, h3, h4⟩ := look_rets h1
    exact .inr ⟨j, by simpa using h2, h3, h4⟩

/-- Where things lie behind the call. -/
def backLoc (loc loc2 : Loc) (d n : Nat) : Loc := fun i => match i with
  | .ret s j => if s = d ∧ j < n then loc2 (.ret 0 j) else loc (.ret s j)
  | i => loc i

theorem backLoc_ret {d n j : Nat} (hj : j < n) : backLoc loc loc2 d n (.ret d j) = loc2 (.ret 0 j) := by simp [backLoc, hj]
theorem backLoc_ne {d n : Nat} {i : Id} (hi : i ∉ retIds d n) : backLoc loc loc2 d n i = loc i := by
  unfold backLoc
  split
  · rename_i s j
    rw [if_neg]
    rintro ⟨rfl, hj⟩
    exact hi (retIds_mem.2 ⟨j, hj, rfl⟩)
  · rfl

theorem Turns.renO {m : List (Id × Id)} {id : Id} {o o' : Obj} (h : Turns loc id o o') : Turns loc id o (Go.Vm.renO m o') := by
  cases o' <;> cases o <;> exact h

theorem Turns.unren {m : List (Id × Id)} {id : Id} {o o' : Obj} (h : Turns loc id (Go.Vm.renO m o) o') : Turns loc id o o' := by
  cases o <;> cases o' <;> exact h

theorem Turns.atLoc {id id' : Id} {o o' : Obj} (hl : loc' id' = loc id) (h : Turns loc' id' o o') : Turns loc id o o' := by
  cases o <;> cases o' <;> simp [Turns] at h ⊢
  rw [← hl]
  exact h

theorem lookS : ∀ {ids : List Id} {n j : Nat} {i : Id}, ids[j]? = some i → look (swap (numFrom .arg n ids)) (.arg (n + j)) = some i
  | [], n, j, i, h => by simp at h
  | x :: ids, n, 0, i, h => by simp at h; subst h; simp [swap, numFrom, look, Id.beq_self]
  | x :: ids, n, j + 1, i, h => by
    have hne : Id.arg n ≠ Id.arg (n + (j + 1)) := by simp
    simp only [swap, numFrom, List.map_cons, look, Id.beq_ne hne, cond_false]
    have := lookS (ids := ids) (n := n + 1) (j := j) (i := i) (by simpa using h)
    rw [show n + (j + 1) = n + 1 + j by omega]
    exact this
theorem lookA {ids : List Id} {d n j : Nat} {i : Id} (h : ids[j]? = some i) : look (backMap ids d n) (.arg j) = some i := by
  unfold backMap
  rw [look_append]
  have := lookS (n := 0) h
  rw [Nat.zero_add] at this
  rw [this]
  rfl
theorem lookRl {d : Nat} : ∀ {l : List Nat} {j : Nat}, j ∈ l → look (l.map fun j => (Id.ret 0 j, Id.ret d j)) (.ret 0 j) = some (.ret d j)
  | [], j, h => by simp at h
  | x :: l, j, h => by
    simp only [List.map_cons, look]
    by_cases hx : x = j
    · subst hx; simp [Id.beq_self]
    · have hne : Id.ret 0 x ≠ Id.ret 0 j := by simp [hx]
      simp only [Id.beq_ne hne, cond_false]
      exact lookRl (by rcases List.mem_cons.1 h with h | h; exact absurd h.symm hx; exact h)
theorem lookR {ids : List Id} {d n j : Nat} (h : j < n) : look (backMap ids d n) (.ret 0 j) = some (.ret d j) := by
  unfold backMap
  rw [look_append]
  have h1 : look (swap (numFrom .arg 0 ids)) (.ret 0 j) = none := by
    cases hl : look (swap (numFrom .arg 0 ids)) (.ret 0 j) with
    | none => rfl
    | some b => obtain ⟨k, hk, _⟩ := look_swap hl; cases hk
  rw [h1, Option.none_or]
  exact lookRl (by simpa using h)

theorem back_ok (hw : HW G U h loc w) {ids : List Id} {os os2 ns : List Obj} {d : Nat} {v v' : V} {u : Value} (hd : distinct ids = true) (hg : getAll h ids = some os)
    (hp : PostV G (Priv U h loc ids) (hpOf .arg 0 (os.map (renO (numFrom .arg 0 ids)))) (argLoc loc ids) w (outHp os2 ns) v u w' loc2)
    (hb : handBack h d ids v os2 ns = some (v', .heap h')) : ∃ loc', PostV G U h loc w h' v' u w' loc' := by
  unfold handBack at hb
  simp only at hb
  cases hf : fresh h ((List.range ns.length).map (Id.ret d)) with
  | false => rw [hf] at hb; simp at hb
  | true =>
    rw [hf] at hb
    simp only [cond_true, Option.bind_eq_some_iff, Option.some.injEq, Prod.mk.injEq, Eff.heap.injEq] at hb
    obtain ⟨h1, hp1, h2', hp2, rfl, rfl⟩ := hb
    have hfr : ∀ i ∈ retIds d ns.length, h i = none := fresh_none hf
    change putAll h ids (os2.map (renO (backMap ids d ns.length))) = some h1 at hp1
    change putAll h1 (retIds d ns.length) (ns.map (renO (backMap ids d ns.length))) = some h2' at hp2
    change ∃ loc', PostV G U h loc w h2' (renV (backMap ids d ns.length) v) u w' loc'
    obtain ⟨hw2, hex, hv⟩ := hp
    obtain ⟨hl1, hg1⟩ := putAll_get hd hp1
    obtain ⟨hl2, hg2⟩ := putAll_get (retIds_distinct d ns.length) hp2
    obtain ⟨hl3, hg3⟩ := getAll_some hg
    rw [List.length_map] at hl1
    generalize hm2 : backMap ids d ns.length = m2 at *
    -- names
    have hidn : ∀ i ∈ ids, i ∉ retIds d ns.length := fun i hi hr => by
      obtain ⟨j, hj⟩ := List.getElem?_of_mem hi
      obtain ⟨o, ho, _⟩ := hg3 j i hj
      rw [hfr i hr] at ho
      cases ho
    have hA : ∀ (j : Nat) (i : Id), ids[j]? = some i → ∃ o2, os2[j]? = some o2 ∧ h2' i = some (renO m2 o2) ∧ outHp os2 ns (.arg j) = some o2 := by
      intro j i hj
      have hlt : j < os2.length := by rw [hl1]; exact (List.getElem?_eq_some_iff.1 hj).1
      refine ⟨os2[j], List.getElem?_eq_getElem hlt, ?_, ?_⟩
      · rw [putAll_ne hp2 i (hidn i (List.mem_of_getElem? hj)), hg1 j i hj, List.getElem?_map, List.getElem?_eq_getElem hlt]
        rfl
      · unfold outHp
        rw [hpOf_arg, List.getElem?_eq_getElem hlt]
    have hB : ∀ (j : Nat), j < ns.length → ∃ o2, ns[j]? = some o2 ∧ h2' (.ret d j) = some (renO m2 o2) ∧ outHp os2 ns (.ret 0 j) = some o2 := by
      intro j hj
      refine ⟨ns[j], List.getElem?_eq_getElem hj, ?_, ?_⟩
      · rw [hg2 j _ (retIds_get hj), List.getElem?_map, List.getElem?_eq_getElem hj]
        rfl
      · unfold outHp
        rw [hpOf_arg_ne (fun k => by simp), hpOf_ret, List.getElem?_eq_getElem hj]
    have hC : ∀ i, i ∉ ids → i ∉ retIds d ns.length → h2' i = h i := fun i hi hr => by rw [putAll_ne hp2 i hr, putAll_ne hp1 i hi]
    have hO : ∀ i o, outHp os2 ns i = some o → (∃ j id, i = .arg j ∧ ids[j]? = some id ∧ os2[j]? = some o) ∨ ∃ j, j < ns.length ∧ i = .ret 0 j ∧ ns[j]? = some o := by
      intro i o ho
      unfold outHp at ho
      split at ho
      · rename_i o2 hh
        obtain ⟨j, hj, hos⟩ := hpOf_some hh
        simp at ho; subst ho
        have hlt : j < ids.length := by rw [← hl1]; exact (List.getElem?_eq_some_iff.1 hos).1
        exact .inl ⟨j, ids[j], by rw [hj]; simp, List.getElem?_eq_getElem hlt, hos⟩
      · obtain ⟨j, hj, hos⟩ := hpOf_some ho
        exact .inr ⟨j, (List.getElem?_eq_some_iff.1 hos).1, by rw [hj]; simp, hos⟩
    have hlA : ∀ (j : Nat) (i : Id), ids[j]? = some i → loc2 (.arg j) = loc i := by
      intro j i hj
      obtain ⟨o, ho, hh⟩ := hand_get (m := numFrom .arg 0 ids) hg hj
      rw [hex.lc _ _ hh]
      simp [argLoc, hj]
    have hbl : ∀ (j : Nat) (i : Id), ids[j]? = some i → backLoc loc loc2 d ns.length i = loc i := fun j i hj => backLoc_ne (hidn i (List.mem_of_getElem? hj))
    -- where an object comes from
    have hsrc : ∀ i o, h2' i = some o → (∃ j o2, ids[j]? = some i ∧ os2[j]? = some o2 ∧ o = renO m2 o2 ∧ outHp os2 ns (.arg j) = some o2) ∨
        (∃ j o2, j < ns.length ∧ i = .ret d j ∧ o = renO m2 o2 ∧ outHp os2 ns (.ret 0 j) = some o2) ∨ (i ∉ ids ∧ i ∉ retIds d ns.length ∧ h i = some o) := by
      intro i o ho
      by_cases hi : i ∈ ids
      · obtain ⟨j, hj⟩ := List.getElem?_of_mem hi
        obtain ⟨o2, q1, q2, q3⟩ := hA j i hj
        rw [ho] at q2
        exact .inl ⟨j, o2, hj, q1, Option.some.inj q2, q3⟩
      · by_cases hr : i ∈ retIds d ns.length
        · obtain ⟨j, hj, rfl⟩ := retIds_mem.1 hr
          obtain ⟨o2, q1, q2, q3⟩ := hB j hj
          rw [ho] at q2
          exact .inr (.inl ⟨j, o2, hj, rfl, Option.some.inj q2, q3⟩)
        · exact .inr (.inr ⟨hi, hr, by rw [← hC i hi hr]; exact ho⟩)
    -- what may be written
    have hmut : ∀ b, Mut U h2' (backLoc loc loc2 d ns.length) b ↔ Mut (Priv U h loc ids) (outHp os2 ns) loc2 b := by
      intro b
      constructor
      · rintro (hu | ⟨i, o, c, ho, hlv, hlo⟩)
        · exact .inl (.inl hu)
        · rcases hsrc i o ho with ⟨j, o2, q1, q2, rfl, q3⟩ | ⟨j, o2, q1, rfl, rfl, q3⟩ | ⟨q1, q2, q3⟩
          · rw [hbl j i q1] at hlo
            exact .inr ⟨.arg j, o2, c, q3, by rw [← (renO_same (m := m2) o2).live]; exact hlv, by rw [hlA j i q1]; exact hlo⟩
          · rw [backLoc_ret q1] at hlo
            exact .inr ⟨.ret 0 j, o2, c, q3, by rw [← (renO_same (m := m2) o2).live]; exact hlv, hlo⟩
          · rw [backLoc_ne q2] at hlo
            exact .inl (.inr ⟨i, o, c, q3, hlv, hlo, q1⟩)
      · rintro ((hu | ⟨i, o, c, ho, hlv, hlo, hn⟩) | ⟨i, o, c, ho, hlv, hlo⟩)
        · exact .inl hu
        · have hr : i ∉ retIds d ns.length := fun hr => by rw [hfr i hr] at ho; cases ho
          exact .inr ⟨i, o, c, by rw [hC i hn hr]; exact ho, hlv, by rw [backLoc_ne hr]; exact hlo⟩
        · rcases hO i o ho with ⟨j, id, rfl, q1, q2⟩ | ⟨j, q1, rfl, q2⟩
          · obtain ⟨o2, r1, r2, r3⟩ := hA j id q1
            rw [q2] at r1
            obtain rfl := Option.some.inj r1
            exact .inr ⟨id, _, c, r2, by rw [(renO_same (m := m2) o).live]; exact hlv, by rw [hbl j id q1, ← hlA j id q1]; exact hlo⟩
          · obtain ⟨o2, r1, r2, r3⟩ := hB j q1
            rw [q2] at r1
            obtain rfl := Option.some.inj r1
            exact .inr ⟨.ret d j, _, c, r2, by rw [(renO_same (m := m2) o).live]; exact hlv, by rw [backLoc_ret q1]; exact hlo⟩
    have hren : Ren m2 (outHp os2 ns) loc2 h2' (backLoc loc loc2 d ns.length) := by
      refine ⟨fun i b o hl ho => ?_⟩
      rw [← hm2] at hl
      rcases look_back hl with ⟨j, rfl, hj⟩ | ⟨j, hj, rfl, rfl⟩
      · obtain ⟨o2, q1, q2, q3⟩ := hA j b hj
        rw [ho] at q3
        obtain rfl := Option.some.inj q3
        exact ⟨_, q2, renO_same o, by rw [hbl j b hj, hlA j b hj]⟩
      · obtain ⟨o2, q1, q2, q3⟩ := hB j hj
        rw [ho] at q3
        obtain rfl := Option.some.inj q3
        exact ⟨_, q2, renO_same o, backLoc_ret hj⟩
    have hex' : Ext U h loc w h2' (backLoc loc loc2 d ns.length) w' := by
      refine ⟨hex.os, hex.tape, hex.output, ⟨hex.keeps.size, fun b hb hm => ?_⟩, ?_, ?_, fun b hb hu => hex.old b hb (.inl hu)⟩
      · have := hex.keeps.same b hb (fun hm2 => hm ((hand_mut hd hg b).1 hm2))
        exact ⟨fun hm3 => this.1 ((hmut b).1 hm3), this.2⟩
      · intro i o ho
        exact backLoc_ne fun hr => by rw [hfr i hr] at ho; cases ho
      · intro i o ho
        have hr : i ∉ retIds d ns.length := fun hr => by rw [hfr i hr] at ho; cases ho
        by_cases hi : i ∈ ids
        · obtain ⟨j, hj⟩ := List.getElem?_of_mem hi
          obtain ⟨o2, q1, q2, q3⟩ := hA j i hj
          obtain ⟨o3, ho3, hh⟩ := hand_get (m := numFrom .arg 0 ids) hg hj
          rw [ho] at ho3
          obtain rfl := Option.some.inj ho3
          obtain ⟨o4, ho4, ht⟩ := hex.ent _ _ hh
          rw [q3] at ho4
          obtain rfl := Option.some.inj ho4
          exact ⟨_, q2, ((Turns.atLoc (loc := loc) (id := i) (by simp [argLoc, hj]) ht).unren).renO⟩
        · exact ⟨o, by rw [hC i hi hr]; exact ho, Turns.refl _ _ _⟩
    have hM : ∀ b, Mut U h2' (backLoc loc loc2 d ns.length) b → Mut (Priv U h loc ids) (outHp os2 ns) loc2 b := fun b hb => (hmut b).1 hb
    -- a live object's block: the callee's, or the caller's own
    have hown : ∀ i o b c, h2' i = some o → o.live = true → backLoc loc loc2 d ns.length i = some (b, c) →
        (∃ x o2, outHp os2 ns x = some o2 ∧ o2.live = true ∧ loc2 x = some (b, c) ∧ look m2 x = some i) ∨ (i ∉ ids ∧ h i = some o ∧ loc i = some (b, c) ∧ Priv U h loc ids b) := by
      intro i o b c ho hlv hlo
      rcases hsrc i o ho with ⟨j, o2, q1, q2, rfl, q3⟩ | ⟨j, o2, q1, rfl, rfl, q3⟩ | ⟨q1, q2, q3⟩
      · rw [hbl j i q1] at hlo
        refine .inl ⟨.arg j, o2, q3, by rw [← (renO_same (m := m2) o2).live]; exact hlv, by rw [hlA j i q1]; exact hlo, ?_⟩
        rw [← hm2]
        exact lookA q1
      · rw [backLoc_ret q1] at hlo
        refine .inl ⟨.ret 0 j, o2, q3, by rw [← (renO_same (m := m2) o2).live]; exact hlv, hlo, ?_⟩
        rw [← hm2]
        exact lookR q1
      · rw [backLoc_ne q2] at hlo
        exact .inr ⟨q1, q3, hlo, .inr ⟨i, o, c, q3, hlv, hlo, q1⟩⟩
    refine ⟨backLoc loc loc2 d ns.length, ⟨?_, ?_, ?_, fun b hb => Nat.lt_of_lt_of_le (hw.low b hb) hex.keeps.size, hw2.gl.1, (hw.gl.step hex').2⟩, hex', VW.ren hren hM v hv⟩
    · intro i o ho
      rcases hsrc i o ho with ⟨j, o2, q1, q2, rfl, q3⟩ | ⟨j, o2, q1, rfl, rfl, q3⟩ | ⟨q1, q2, q3⟩
      · exact OW.ren hren hM (by rw [hbl j i q1, hlA j i q1]) (hw2.obj _ _ q3)
      · exact OW.ren hren hM (backLoc_ret q1) (hw2.obj _ _ q3)
      · exact OW.ext hex' (hw.obj i o q3) (fun _ => backLoc_ne q2) (fun b c hlv hlo => hex.old b (hw.sep i o b c q3 hlv hlo).2 (.inr ⟨i, o, c, q3, hlv, hlo, q1⟩))
    · intro i1 i2 o1 o2 b c1 c2 ho1 hl1' ho2 hl2' hb1 hb2
      rcases hown i1 o1 b c1 ho1 hl1' hb1 with ⟨x1, p1, q1, q2, q3, q4⟩ | ⟨q1, q2, q3, q4⟩ <;> rcases hown i2 o2 b c2 ho2 hl2' hb2 with ⟨x2, p2, r1, r2, r3, r4⟩ | ⟨r1, r2, r3, r4⟩
      · have := hw2.inj x1 x2 p1 p2 b c1 c2 q1 q2 r1 r2 q3 r3
        subst this
        rw [q4] at r4
        exact Option.some.inj r4
      · exact absurd r4 (hw2.sep x1 p1 b c1 q1 q2 q3).1
      · exact absurd q4 (hw2.sep x2 p2 b c2 r1 r2 r3).1
      · exact hw.inj i1 i2 o1 o2 b c1 c2 q2 hl1' r2 hl2' q3 r3
    · intro i o b c ho hlv hlo
      rcases hown i o b c ho hlv hlo with ⟨x1, p1, q1, q2, q3, q4⟩ | ⟨q1, q2, q3, q4⟩
      · have := hw2.sep x1 p1 b c q1 q2 q3
        exact ⟨fun hu => this.1 (.inl hu), this.2⟩
      · have := hw.sep i o b c q2 hlv q3
        exact ⟨this.1, Nat.lt_of_lt_of_le this.2 hex.keeps.size⟩

end
end Go.Vm

namespace Go.Vm
variable {G : Gl}
set_option linter.unusedVariables false
set_option linter.unusedSimpArgs false

section
variable {P : Program} {cfg : Cfg} {U : Nat → Prop} {h h' h2 : Hp} {loc loc' loc2 : Loc} {w w' : World} {a : Act} {fr : Fr} {M' : Nat → Prop}

theorem castC_ok {M : Nat → Prop} {o n c : C} {v : Value} (hc : CW w M h loc v n) (hk : castC o n = some c) : CW w M h loc v c := by
  unfold castC at hk
  split at hk
  · simp only [Option.bind_eq_some_iff, Option.some.injEq] at hk
    obtain ⟨b, h1, rfl⟩ := hk
    rw [fBool_ok h1] at hc; exact hc
  · simp only [Option.bind_eq_some_iff, Option.some.injEq] at hk
    obtain ⟨b, h1, rfl⟩ := hk
    rw [fInt_ok h1] at hc; exact hc
  · simp only [Option.bind_eq_some_iff, Option.some.injEq] at hk
    obtain ⟨b, h1, rfl⟩ := hk
    rw [fStr_ok h1] at hc; exact hc
  · simp only [Option.bind_eq_some_iff, Option.some.injEq] at hk
    obtain ⟨b, h1, rfl⟩ := hk
    obtain ⟨t, h2⟩ := fSl_ok h1
    rw [h2] at hc; exact hc.loose
  · simp at hk; subst hk; exact hc

theorem castCs_ok {M : Nat → Prop} : ∀ {os ns cs : List C} {us : List Value}, CWs w M h loc us ns → castCs os ns = some cs → ns.length = os.length → CWs w M h loc us cs
  | [], ns, cs, us, hc, hk, hl => by
    simp [castCs] at hk; subst hk
    have : ns = [] := List.eq_nil_of_length_eq_zero hl
    subst this; exact hc
  | o :: os, [], cs, us, hc, hk, hl => by simp at hl
  | o :: os, n :: ns, cs, [], hc, hk, hl => by unfold CWs at hc; exact hc.elim
  | o :: os, n :: ns, cs, u :: us, hc, hk, hl => by
    simp only [castCs, List.head?_cons, Option.bind_some, List.tail_cons, Option.bind_eq_some_iff, Option.some.injEq] at hk
    obtain ⟨x, h1, r, h2, rfl⟩ := hk
    unfold CWs at hc ⊢
    exact ⟨castC_ok hc.1 h1, castCs_ok hc.2 h2 (by simpa using hl)⟩

theorem asBox_ok {o : Obj} {cs : List C} (hb : asBox o = some cs) : o = .box cs := by
  unfold asBox at hb; split at hb
  · simp at hb; subst hb; rfl
  · cases hb

theorem asRow_ok {o : Obj} {wr : Bool} {k : Kind} {l : List (El k)} (hb : asRow wr k o = some l) : o = .row wr k l := by
  unfold asRow at hb; split at hb
  · rename_i wr' k' l'
    by_cases h1 : wr' = wr
    · by_cases h2 : k' = k
      · subst h1; subst h2; simp at hb; subst hb; rfl
      · simp [h1, h2] at hb
    · simp [h1] at hb
  · cases hb

/-- An object that is taken for what it was: no more, and of one kind. -/
def Weak (w : World) (M : Nat → Prop) (h : Hp) (loc : Loc) (id : Id) (n x : Obj) : Prop := Same n x ∧ (OW w M h loc id n → OW w M h loc id x)

theorem castO_ok {M : Nat → Prop} {id : Id} {o n x : Obj} (hk : castO o n = some x) : Weak w M h loc id n x := by
  unfold castO at hk
  split at hk
  · rename_i cs
    simp only [Option.bind_eq_some_iff] at hk
    obtain ⟨ns, h1, r, h2, hk⟩ := hk
    obtain rfl := asBox_ok h1
    cases hb : Nat.beq ns.length cs.length with
    | false => rw [hb] at hk; simp at hk
    | true =>
      rw [hb] at hk
      simp at hk; subst hk
      exact ⟨by simp [Same], fun ⟨b, c, us, T, q1, q2, q3⟩ => ⟨b, c, us, T, q1, q2, castCs_ok q3 h2 (Nat.eq_of_beq_eq_true hb)⟩⟩
  · rename_i wr k l
    simp only [Option.bind_eq_some_iff, Option.some.injEq] at hk
    obtain ⟨l', h1, rfl⟩ := hk
    obtain rfl := asRow_ok h1
    exact ⟨by simp [Same], fun h => h⟩
  · simp at hk; subst hk
    exact ⟨by cases n <;> simp [Same], fun h => h⟩

theorem castOs_ok : ∀ {os ns xs : List Obj}, castOs os ns = some xs → ns.length = os.length → xs.length = ns.length ∧ ∀ (j : Nat) (n : Obj), ns[j]? = some n → ∃ x, xs[j]? = some x ∧ ∃ o, castO o n = some x
  | [], ns, xs, hk, hl => by
    simp [castOs] at hk; subst hk
    have : ns = [] := List.eq_nil_of_length_eq_zero hl
    subst this
    exact ⟨rfl, fun j n hn => by simp at hn⟩
  | o :: os, [], xs, hk, hl => by simp at hl
  | o :: os, n :: ns, xs, hk, hl => by
    simp only [castOs, List.head?_cons, Option.bind_some, List.tail_cons, Option.bind_eq_some_iff, Option.some.injEq] at hk
    obtain ⟨x, h1, r, h2, rfl⟩ := hk
    obtain ⟨h3, h4⟩ := castOs_ok h2 (by simpa using hl)
    refine ⟨by simp [h3], fun j y hy => ?_⟩
    cases j with
    | zero => simp at hy; subst hy; exact ⟨x, rfl, o, h1⟩
    | succ j => simpa using h4 j y (by simpa using hy)

/-- Objects that are told less of. -/
theorem PostV.weak {h1 : Hp} {loc1 : Loc} {v : V} {u : Value} (hp : PostV G U h loc w h1 v u w' loc1) (hf : ∀ i o, h1 i = some o → ∃ o', h2 i = some o' ∧ Weak w' (Mut U h1 loc1) h1 loc1 i o o')
    (hb : ∀ i o', h2 i = some o' → ∃ o, h1 i = some o) : PostV G U h loc w h2 v u w' loc1 := by
  obtain ⟨hw, hex, hv⟩ := hp
  have hsh : Shape h1 loc1 h2 loc1 := fun i o ho => by obtain ⟨o', h3, h4, _⟩ := hf i o ho; exact ⟨o', h3, h4, rfl⟩
  have hbk : ∀ i o', h2 i = some o' → ∃ o, h1 i = some o ∧ Weak w' (Mut U h1 loc1) h1 loc1 i o o' := fun i o' ho' => by
    obtain ⟨o, ho⟩ := hb i o' ho'
    obtain ⟨o2, h3, h4⟩ := hf i o ho
    rw [ho'] at h3
    obtain rfl := Option.some.inj h3
    exact ⟨o, ho, h4⟩
  have hM : ∀ b, Mut U h2 loc1 b → Mut U h1 loc1 b := by
    rintro b (hu | ⟨i, o, c, ho, hl, hlo⟩)
    · exact .inl hu
    · obtain ⟨o2, h3, h4, _⟩ := hbk i o ho
      exact .inr ⟨i, o2, c, h3, by rw [← h4.live]; exact hl, hlo⟩
  refine ⟨⟨?_, ?_, ?_, hw.low, hw.gl.1, fun b hb => ⟨(hw.gl.2 b hb).1, (hw.gl.2 b hb).2.elim .inl (fun h => .inr fun hm => h (hM b hm))⟩⟩, ?_, VW.shape hsh hM v hv⟩
  · intro i o ho
    obtain ⟨o2, h3, h4, h5⟩ := hbk i o ho
    have := h5 (hw.obj i o2 h3)
    cases o with
    | box cs => obtain ⟨b, c, us, T, q1, q2, q3⟩ := this; exact ⟨b, c, us, T, q1, q2, CWs.shape hsh hM cs q3⟩
    | row wr k l => exact ⟨this.1, fun b c hl => by
        obtain ⟨us, T, q1, q2, q3, q4⟩ := this.2 b c hl
        exact ⟨us, T, q1, q2, q3, fun i x j f hx hf => by obtain ⟨u, n, r1, r2⟩ := q4 i x j f hx hf; exact ⟨u, n, r1, r2.mono hM⟩⟩⟩
    | dead => trivial
  · intro i1 i2 o1 o2 b c1 c2 ho1 l1 ho2 l2 e1 e2
    obtain ⟨p1, q1, r1, _⟩ := hbk i1 o1 ho1
    obtain ⟨p2, q2, r2, _⟩ := hbk i2 o2 ho2
    exact hw.inj i1 i2 p1 p2 b c1 c2 q1 (by rw [← r1.live]; exact l1) q2 (by rw [← r2.live]; exact l2) e1 e2
  · intro i o b c ho hl hlo
    obtain ⟨p1, q1, r1, _⟩ := hbk i o ho
    exact hw.sep i p1 b c q1 (by rw [← r1.live]; exact hl) hlo
  · refine ⟨hex.os, hex.tape, hex.output, ⟨hex.keeps.size, fun b hb hm => ?_⟩, hex.lc, ?_, hex.old⟩
    · have := hex.keeps.same b hb hm
      exact ⟨fun h => this.1 (hM b h), this.2⟩
    · intro i o ho
      obtain ⟨o1, ho1, ht⟩ := hex.ent i o ho
      obtain ⟨o2, ho2, hs, _⟩ := hf i o1 ho1
      refine ⟨o2, ho2, ?_⟩
      cases o1 with
      | box cs => cases o2 <;> simp [Same] at hs; cases o <;> exact ht
      | row wr k l => simp only [Same] at hs; rw [hs]; exact ht
      | dead => cases o2 <;> simp [Same] at hs; exact ht

theorem handBack_heap {d : Nat} {ids : List Id} {r v : V} {os ns : List Obj} {e : Eff} (hb : handBack h d ids r os ns = some (v, e)) : ∃ h', e = .heap h' := by
  unfold handBack at hb
  simp only at hb
  cases hf : fresh h ((List.range ns.length).map (Id.ret d)) with
  | false => rw [hf] at hb; simp at hb
  | true =>
    rw [hf] at hb
    simp only [cond_true, Option.bind_eq_some_iff, Option.some.injEq, Prod.mk.injEq] at hb
    obtain ⟨_, _, h2, _, _, rfl⟩ := hb
    exact ⟨h2, rfl⟩

theorem run_callFunc_go {f : FuncId} {fn : Func} {c : Code} (hf : P.funcs[f]? = some fn) (hname : (fn.name == "runtime.NumGoroutine") = false) (hb : fn.body = some c) (args : Array Value) (w : World) :
    (callFunc f args).run P w = .ok (.enter f args) w := by
  have h1 : fn.name ≠ "runtime.NumGoroutine" := by simpa using hname
  simp [callFunc, hf, h1, hb]

theorem hcall_ok {T : CallSem} (hT : TOK G P T) (hw : HW G U h loc w) {d : Nat} {f : FuncId} {us : List Value} {args : List V} {v : V} {e : Eff} (hargs : VWs w (Mut U h loc) h loc us args) (hc : hcall T h d f args = some (v, e)) (he : applyE h e = some h') :
    (∃ fn c, P.funcs[f]? = some fn ∧ fn.body = some c ∧ (fn.name == "runtime.NumGoroutine") = false) ∧ Calls P f us.toArray w fun e w' => ∃ u loc', e = .returned u ∧ PostV G U h loc w h' v u w' loc' := by
  unfold hcall at hc
  simp only at hc
  generalize hids : reach h 3 (addNew [] (refsVs args)) = ids at hc
  cases hd : distinct ids with
  | false => rw [hd] at hc; simp at hc
  | true =>
    rw [hd] at hc
    simp only [cond_true, Option.bind_eq_some_iff] at hc
    obtain ⟨os, hg, r, hr, hb⟩ := hc
    have hf := hT _ _ _ _ hr
    refine ⟨hf.fn, (hand_ok hw hd hg hargs hf).mono fun e' w' => ?_⟩
    rintro ⟨u, loc2, rfl, hp⟩
    obtain ⟨h'', rfl⟩ := handBack_heap hb
    simp only [applyE, Option.some.injEq] at he
    subst he
    obtain ⟨loc', hp'⟩ := back_ok hw hd hg hp hb
    exact ⟨u, loc', rfl, hp'⟩

/-! ### New objects that are handed back, frozen -/

theorem frzBackM_ok {M' : Nat → Prop} {h2 : Hp} {loc2 : Loc} (hw : HW G U h loc w) (hM : ∀ b, M' b → Mut U h loc b) {v v' : V} {u : Value} (hr : ∀ id ∈ refsV v, ∀ o b k, h id = some o → o.live = true → loc id = some (b, k) → ¬ M' b)
    (hs : frzBack h v = some v') (hc : VW w (Mut U h loc) h loc u v) : VW w M' h2 loc2 u v' := by
  cases v with
  | c x =>
    simp only [frzBack, Option.map_eq_some_iff] at hs
    obtain ⟨d, hd, rfl⟩ := hs
    unfold VW at hc ⊢
    exact snapC_ok hw hM (by simpa [refsV] using hr) hd hc
  | agg cs =>
    simp only [frzBack, Option.map_eq_some_iff] at hs
    obtain ⟨d, hd, rfl⟩ := hs
    unfold VW at hc ⊢
    obtain ⟨us, e, hcs⟩ := hc
    exact ⟨us, e, snapCs_ok hw hM (by simpa [refsV] using hr) hd hcs⟩
  | tup vs =>
    simp only [frzBack, Option.map_eq_some_iff] at hs
    obtain ⟨d, hd, rfl⟩ := hs
    unfold VW at hc ⊢
    obtain ⟨us, e, hcs⟩ := hc
    refine ⟨us, e, ?_⟩
    clear e
    simp only [refsV] at hr
    induction vs generalizing d us with
    | nil =>
      simp [lmapM] at hd; subst hd
      match us, hcs with
      | [], _ => unfold VWs; trivial
      | _ :: _, hcs => unfold VWs at hcs; exact hcs.elim
    | cons y ys ih =>
      match us, hcs with
      | [], hcs => unfold VWs at hcs; exact hcs.elim
      | u :: us, hcs =>
        simp only [lmapM, Option.bind_eq_some_iff, Option.some.injEq] at hd
        obtain ⟨z, hz, r, hr2, rfl⟩ := hd
        unfold VWs at hcs ⊢
        refine ⟨?_, ih (fun id hid => hr id (by simp [refsVs, hid])) r hr2 us hcs.2⟩
        have h1 := hcs.1
        cases y with
        | c x =>
          simp only [Option.map_eq_some_iff] at hz
          obtain ⟨d, hd, rfl⟩ := hz
          unfold VW at h1 ⊢
          exact snapC_ok hw hM (fun id hid => hr id (by simp [refsVs, refsV, hid])) hd h1
        | agg cs =>
          simp only [Option.map_eq_some_iff] at hz
          obtain ⟨d, hd, rfl⟩ := hz
          unfold VW at h1 ⊢
          obtain ⟨us2, e2, hcs2⟩ := h1
          exact ⟨us2, e2, snapCs_ok hw hM (fun id hid => hr id (by simp [refsVs, refsV, hid])) hd hcs2⟩
        | tup _ => cases hz

theorem snapC_le {h2 : Hp} (hle : ∀ i o, h i = some o → h2 i = some o) {c d : C} (hl : snapC h c = some d) : snapC h2 c = some d := by
  have hb : ∀ {i : Id} {α : Type} {f : Obj → Option α} {r : α}, (h i).bind f = some r → (h2 i).bind f = some r := by
    intro i α f r hh
    rw [Option.bind_eq_some_iff] at hh ⊢
    obtain ⟨o, ho, hf⟩ := hh
    exact ⟨o, hle i o ho, hf⟩
  have hB : ∀ {c d : C}, snapB h c = some d → snapB h2 c = some d := by
    intro c d hh
    cases c <;> simp only [snapB] at hh ⊢ <;> first | exact hh | exact hb hh | cases hh
  have hL : ∀ {cs ds : List C}, lmapM (snapB h) cs = some ds → lmapM (snapB h2) cs = some ds := by
    intro cs
    induction cs with
    | nil => intro ds hh; exact hh
    | cons x xs ih =>
      intro ds hh
      simp only [lmapM, Option.bind_eq_some_iff] at hh ⊢
      obtain ⟨a, ha, b, hb2, he⟩ := hh
      exact ⟨a, hB ha, b, ih hb2, he⟩
  cases c <;> simp only [snapC] at hl ⊢ <;> first | exact hl | exact hb hl | exact hB hl | (simp only [Option.map_eq_some_iff] at hl ⊢; obtain ⟨a, ha, he⟩ := hl; exact ⟨a, hL ha, he⟩) | cases hl

theorem snapCs_le {h2 : Hp} (hle : ∀ i o, h i = some o → h2 i = some o) : ∀ {cs ds : List C}, lmapM (snapC h) cs = some ds → lmapM (snapC h2) cs = some ds
  | [], ds, hh => hh
  | x :: xs, ds, hh => by
    simp only [lmapM, Option.bind_eq_some_iff] at hh ⊢
    obtain ⟨a, ha, b, hb2, he⟩ := hh
    exact ⟨a, snapC_le hle ha, b, snapCs_le hle hb2, he⟩

theorem frzBack_le {h2 : Hp} (hle : ∀ i o, h i = some o → h2 i = some o) {v v' : V} (hs : frzBack h v = some v') : frzBack h2 v = some v' := by
  cases v with
  | c x =>
    simp only [frzBack, Option.map_eq_some_iff] at hs ⊢
    obtain ⟨d, hd, he⟩ := hs
    exact ⟨d, snapC_le hle hd, he⟩
  | agg cs =>
    simp only [frzBack, Option.map_eq_some_iff] at hs ⊢
    obtain ⟨d, hd, he⟩ := hs
    exact ⟨d, snapCs_le hle hd, he⟩
  | tup vs =>
    simp only [frzBack, Option.map_eq_some_iff] at hs ⊢
    obtain ⟨d, hd, he⟩ := hs
    refine ⟨d, ?_, he⟩
    clear he
    induction vs generalizing d with
    | nil => exact hd
    | cons y ys ih =>
      simp only [lmapM, Option.bind_eq_some_iff] at hd ⊢
      obtain ⟨a, ha, b, hb, he⟩ := hd
      refine ⟨a, ?_, b, ih b hb, he⟩
      cases y with
      | c x =>
        simp only [Option.map_eq_some_iff] at ha ⊢
        obtain ⟨p, hp, hq⟩ := ha
        exact ⟨p, snapC_le hle hp, hq⟩
      | agg cs =>
        simp only [Option.map_eq_some_iff] at ha ⊢
        obtain ⟨p, hp, hq⟩ := ha
        exact ⟨p, snapCs_le hle hp, hq⟩
      | tup _ => cases ha

theorem CWs_flat {M M' : Nat → Prop} {h1 h2 : Hp} {l1 l2 : Loc} (hM : ∀ b, M' b → M b) : ∀ {cs : List C} {us : List Value}, cs.all isFC = true → CWs w M h1 l1 us cs → CWs w M' h2 l2 us cs
  | [], [], _, _ => by unfold CWs; trivial
  | [], _ :: _, _, hc => by unfold CWs at hc; exact hc.elim
  | _ :: _, [], _, hc => by unfold CWs at hc; exact hc.elim
  | c :: cs, u :: us, ha, hc => by
    simp only [List.all_cons, Bool.and_eq_true] at ha
    unfold CWs at hc ⊢
    refine ⟨?_, CWs_flat hM ha.2 hc.2⟩
    cases c with
    | f x =>
      have h1 := hc.1
      unfold CW at h1 ⊢
      obtain ⟨n, hn⟩ := h1
      exact ⟨n, hn.mono hM⟩
    | _ => exact absurd ha.1 (by simp [isFC])

theorem outHp_arg {os ns : List Obj} {j : Nat} : outHp os ns (.arg j) = hpOf .arg 0 os (.arg j) := by
  unfold outHp
  cases hh : hpOf .arg 0 os (.arg j) with
  | some o => rfl
  | none =>
    show hpOf (.ret 0) 0 ns (.arg j) = none
    cases hx : hpOf (.ret 0) 0 ns (.arg j) with
    | none => rfl
    | some o =>
      obtain ⟨k, hk, _⟩ := hpOf_some hx
      cases hk

theorem outHp_out {os : List Obj} {i : Id} {o : Obj} (ho : outHp os [] i = some o) : ∃ j, i = .arg j ∧ os[j]? = some o := by
  unfold outHp at ho
  split at ho
  · rename_i o2 hh
    obtain ⟨j, hj, hos⟩ := hpOf_some hh
    simp at ho; subst ho
    exact ⟨j, by rw [hj]; simp, hos⟩
  · simp [hpOf] at ho

theorem FnOK.freeze {f : FuncId} {args : List V} {objs : List Obj} {r r' : V × List Obj × List Obj} (hf : FnOK G P f args objs r) (hz : frzR r = some r') : FnOK G P f args objs r' := by
  obtain ⟨v, os, ns⟩ := r
  unfold frzR at hz
  dsimp only at hz
  cases hn : isNil ns with
  | true => rw [hn] at hz; simp only [cond_true, Option.some.injEq] at hz; subst hz; exact hf
  | false =>
    rw [hn] at hz
    simp only [cond_false] at hz
    cases hc : (os.all flatO && (refsV v).all notArg) with
    | false => rw [hc] at hz; cases hz
    | true =>
      rw [hc] at hz
      simp only [cond_true, Option.map_eq_some_iff] at hz
      obtain ⟨v', hv', rfl⟩ := hz
      simp only [Bool.and_eq_true, List.all_eq_true] at hc
      obtain ⟨hfl, hrf⟩ := hc
      refine ⟨hf.fn, hf.len, fun U loc w vs hw hv => (hf.calls U loc w vs hw hv).mono fun e w' => ?_⟩
      rintro ⟨u, loc', rfl, hw1, hex, hvw⟩
      refine ⟨u, loc', rfl, ?_⟩
      dsimp only at hw1 hex hvw ⊢
      have hsub : ∀ i o, outHp os [] i = some o → outHp os ns i = some o := by
        intro i o ho
        obtain ⟨j, rfl, hj⟩ := outHp_out ho
        rw [outHp_arg] at ho ⊢
        exact ho
      have hM : ∀ b, Mut U (outHp os []) loc' b → Mut U (outHp os ns) loc' b := by
        rintro b (hu | ⟨i, o, c, ho, hl, hlo⟩)
        · exact .inl hu
        · exact .inr ⟨i, o, c, hsub i o ho, hl, hlo⟩
      refine ⟨⟨?_, ?_, ?_, hw1.low, hw1.gl.1, fun b hb => ⟨(hw1.gl.2 b hb).1, (hw1.gl.2 b hb).2.elim .inl (fun h => .inr fun hm => h (hM b hm))⟩⟩, ?_, ?_⟩
      · intro i o ho
        have h1 := hw1.obj i o (hsub i o ho)
        obtain ⟨j, _, hj⟩ := outHp_out ho
        have hflo := hfl o (List.mem_of_getElem? hj)
        cases o with
        | box cs => obtain ⟨b, c, us, T, q1, q2, q3⟩ := h1; exact ⟨b, c, us, T, q1, q2, CWs_flat hM hflo q3⟩
        | row wr k l => exact ⟨h1.1, fun b c hl => by
            obtain ⟨us, T, q1, q2, q3, q4⟩ := h1.2 b c hl
            exact ⟨us, T, q1, q2, q3, fun i x j f hx hf => by obtain ⟨u, n, r1, r2⟩ := q4 i x j f hx hf; exact ⟨u, n, r1, r2.mono hM⟩⟩⟩
        | dead => trivial
      · intro i1 i2 o1 o2 b c1 c2 ho1 l1 ho2 l2 e1 e2
        exact hw1.inj i1 i2 o1 o2 b c1 c2 (hsub _ _ ho1) l1 (hsub _ _ ho2) l2 e1 e2
      · intro i o b c ho hl hlo
        exact hw1.sep i o b c (hsub _ _ ho) hl hlo
      · refine ⟨hex.os, hex.tape, hex.output, ⟨hex.keeps.size, fun b hb hm => ?_⟩, hex.lc, ?_, hex.old⟩
        · have := hex.keeps.same b hb hm
          exact ⟨fun h => this.1 (hM b h), this.2⟩
        · intro i o ho
          obtain ⟨o1, ho1, ht⟩ := hex.ent i o ho
          obtain ⟨j, hj, _⟩ := hpOf_some ho
          refine ⟨o1, ?_, ht⟩
          rw [hj, outHp_arg] at ho1 ⊢
          exact ho1
      · have hle : ∀ i o, hpOf (.ret 0) 0 ns i = some o → outHp os ns i = some o := by
          intro i o ho
          obtain ⟨j, hj, _⟩ := hpOf_some ho
          unfold outHp
          cases hh : hpOf .arg 0 os i with
          | none => exact ho
          | some o2 =>
            obtain ⟨k, hk, _⟩ := hpOf_some hh
            rw [hk] at hj
            cases hj
        refine frzBackM_ok hw1 hM (fun id hid o b k ho hl hlo hm => ?_) (frzBack_le hle hv') hvw
        have hna := hrf id hid
        rcases hm with hu | ⟨i2, o2, c2, ho2, hl2, hlo2⟩
        · exact (hw1.sep id o b k ho hl hlo).1 hu
        · have := hw1.inj id i2 o o2 b k c2 ho hl (hsub _ _ ho2) hl2 hlo hlo2
          subst this
          obtain ⟨j, rfl, _⟩ := outHp_out ho2
          cases hna

theorem TOK.frz {T : CallSem} (hT : TOK G P T) : TOK G P (frzT T) := by
  intro f args objs r hr
  unfold frzT at hr
  rw [Option.bind_eq_some_iff] at hr
  obtain ⟨r0, h0, hz⟩ := hr
  exact (hT f args objs r0 h0).freeze hz

theorem isNil_ok {α : Type} {l : List α} (hn : isNil l = true) : l = [] := by cases l <;> simp [isNil] at hn ⊢

theorem hcallS_ok {T : CallSem} (hT : TOK G P T) (hw : HW G U h loc w) {d : Nat} {f : FuncId} {us : List Value} {args : List V} {sh : Sh} {v : V} {e : Eff} (hargs : VWs w (Mut U h loc) h loc us args) (hc : hcallS T h d f args sh = some (v, e)) (he : applyE h e = some h') :
    (∃ fn c, P.funcs[f]? = some fn ∧ fn.body = some c ∧ (fn.name == "runtime.NumGoroutine") = false) ∧ Calls P f us.toArray w fun e w' => ∃ u loc', e = .returned u ∧ PostV G U h loc w h' v u w' loc' := by
  unfold hcallS at hc
  simp only at hc
  generalize hids : reach h 3 (addNew [] (refsVs args)) = ids at hc
  cases hd : distinct ids with
  | false => rw [hd] at hc; simp at hc
  | true =>
    rw [hd] at hc
    simp only [cond_true, Option.bind_eq_some_iff] at hc
    obtain ⟨os, hg, r, hr, v1, hv1, os', hos', hb⟩ := hc
    have hf := hT _ _ _ _ hr
    refine ⟨hf.fn, (hand_ok hw hd hg hargs hf).mono fun e' w' => ?_⟩
    rintro ⟨u, loc2, rfl, hp⟩
    cases hcond : (Nat.beq r.2.1.length os.length && isNil r.2.2) with
    | false => rw [hcond] at hb; simp at hb
    | true =>
      rw [hcond] at hb
      simp only [cond_true] at hb
      simp only [Bool.and_eq_true] at hcond
      have hl := Nat.eq_of_beq_eq_true hcond.1
      have hn := isNil_ok hcond.2
      rw [hn] at hp
      obtain ⟨hl2, hg2⟩ := castOs_ok hos' (by simpa using hl)
      have hp1 : PostV G (Priv U h loc ids) (hpOf .arg 0 (os.map (renO (numFrom .arg 0 ids)))) (argLoc loc ids) w (outHp r.2.1 []) v1 u w' loc2 := ⟨hp.1, hp.2.1, cast_ok sh hp.2.2 hv1⟩
      have hout : ∀ (l : List Obj) i o, outHp l [] i = some o ↔ ∃ j, i = .arg j ∧ l[j]? = some o := by
        intro l i o
        unfold outHp
        constructor
        · intro ho
          split at ho
          · rename_i o2 hh
            obtain ⟨j, hj, hos⟩ := hpOf_some hh
            simp at ho; subst ho
            exact ⟨j, by rw [hj]; simp, hos⟩
          · simp [hpOf] at ho
        · rintro ⟨j, rfl, hj⟩
          rw [hpOf_arg, hj]
      have hp2 : PostV G (Priv U h loc ids) (hpOf .arg 0 (os.map (renO (numFrom .arg 0 ids)))) (argLoc loc ids) w (outHp os' []) v1 u w' loc2 := by
        refine hp1.weak ?_ ?_
        · intro i o ho
          obtain ⟨j, rfl, hj⟩ := (hout _ _ _).1 ho
          obtain ⟨x, hx, o0, hk⟩ := hg2 j o hj
          exact ⟨x, (hout _ _ _).2 ⟨j, rfl, hx⟩, castO_ok hk⟩
        · intro i o' ho'
          obtain ⟨j, rfl, hj⟩ := (hout _ _ _).1 ho'
          have hlt : j < r.2.1.length := by rw [← hl2]; exact (List.getElem?_eq_some_iff.1 hj).1
          exact ⟨_, (hout _ _ _).2 ⟨j, rfl, List.getElem?_eq_getElem hlt⟩⟩
      obtain ⟨h'', rfl⟩ := handBack_heap hb
      simp only [applyE, Option.some.injEq] at he
      subst he
      obtain ⟨loc', hp'⟩ := back_ok hw hd hg hp2 hb
      exact ⟨u, loc', rfl, hp'⟩

theorem VWs.append {M : Nat → Prop} : ∀ {us vs : List Value} {cs ds : List V}, VWs w M h loc us cs → VWs w M h loc vs ds → VWs w M h loc (us ++ vs) (cs ++ ds)
  | [], vs, [], ds, _, h2 => h2
  | [], _, _ :: _, _, h1, _ => by unfold VWs at h1; exact h1.elim
  | _ :: _, _, [], _, h1, _ => by unfold VWs at h1; exact h1.elim
  | u :: us, vs, c :: cs, ds, h1, h2 => by unfold VWs at h1; simp only [List.cons_append]; unfold VWs; exact ⟨h1.1, VWs.append h1.2 h2⟩

theorem CWs.toV {M : Nat → Prop} : ∀ {us : List Value} {cs : List C}, CWs w M h loc us cs → VWs w M h loc us (cs.map V.c)
  | [], [], _ => by simp; unfold VWs; trivial
  | [], _ :: _, h1 => by unfold CWs at h1; exact h1.elim
  | _ :: _, [], h1 => by unfold CWs at h1; exact h1.elim
  | u :: us, c :: cs, h1 => by unfold CWs at h1; simp only [List.map_cons]; unfold VWs; exact ⟨by unfold VW; exact h1.1, CWs.toV h1.2⟩

/-- A new row that a function hands back. -/
theorem newAt_ok (hw : HW G U h loc w) {d : Nat} (h0 : h (.own d) = none) {k : Kind} {l : List (El k)} {news : List Value} {v' : Value} {T : TypeId} (hb : Go.RowKit.Below w.heap.size w w')
    (ho : w'.ownsRow w.heap.size T (szOf k) v' l.length news) (hcs : CWs w (Mut U h loc) h loc news ((flat k l).map C.f)) :
    ∃ loc', PostV G U h loc w (hput h (.own d) (.row true k l)) (.c (.row (.own d) k)) v' w' loc' := by
  obtain ⟨hlen, ⟨rfl, hn0⟩ | ⟨g, cap, cur, rfl, hg, hcell, hcap, _, hsz, htake⟩⟩ := ho
  · have hl : l = [] := List.length_eq_zero_iff.1 hn0
    subst hl
    have hw' := hw.grow hb.size hb.block hb.os hb.tape hb.output
    have ex' : Ext U h loc w h loc w' := Ext.grow hb.size hb.block hb.os hb.tape hb.output
    have hp := putEmpty_ok (k := k) (v := .slice none 0 0) hw' h0 ⟨none, 0, rfl, Nat.le_refl _, fun _ => rfl, fun i x hx => by simp at hx⟩
    exact ⟨_, hp.1, ex'.trans hp.2.1, hp.2.2⟩
  · have hgl : g < w'.heap.size := by
      by_cases hh : g < w'.heap.size
      · exact hh
      · rw [Array.getElem?_eq_none (by omega)] at hcell; cases hcell
    have ex : Ext U h loc w (hput h (.own d) (.row true k l)) (lput loc (.own d) (some (g, cap))) w' := by
      refine ⟨hb.os, hb.tape, hb.output, ⟨hb.size, fun b hlt hm => ⟨?_, hb.block b hlt⟩⟩, fun id o ho => ?_, fun id o ho => ?_, fun b hlt _ => hb.block b hlt⟩
      · rintro (hu | ⟨id', o', c', ho', hl, hloc⟩)
        · exact hm (.inl hu)
        · by_cases hid : id' = .own d
          · subst hid
            rw [lput_self] at hloc
            simp at hloc
            omega
          · rw [hput_ne _ _ hid] at ho'
            rw [lput_ne _ _ hid] at hloc
            exact hm (.inr ⟨id', o', c', ho', hl, hloc⟩)
      · have hid : id ≠ .own d := by rintro rfl; rw [h0] at ho; cases ho
        rw [lput_ne _ _ hid]
      · have hid : id ≠ .own d := by rintro rfl; rw [h0] at ho; cases ho
        exact ⟨o, by rw [hput_ne _ _ hid]; exact ho, Turns.refl _ _ _⟩
    refine ⟨_, hw.step ex (fun id o ho => ?_) (fun i1 i2 o1 o2 b c1 c2 h1 l1 h2 l2 b1 b2 => ?_) (fun i o b c ho hl hb' => ?_), ex, ?_⟩
    · by_cases hid : id = .own d
      · subst hid
        rw [hput_self] at ho
        obtain rfl := Option.some.inj ho
        refine .inr ⟨fun hn => (by rw [lput_self] at hn; cases hn), fun b c hl => ?_⟩
        rw [lput_self] at hl
        simp only [Option.some.injEq, Prod.mk.injEq] at hl
        obtain ⟨rfl, rfl⟩ := hl
        refine ⟨cur, T, hcell, hsz, hcap, cells_row (hcs.ext ex) (fun p u hp => ?_)⟩
        rw [← htake, List.getElem?_take] at hp
        split at hp
        · simpa using hp
        · cases hp
      · rw [hput_ne _ _ hid] at ho
        exact .inl ⟨ho, fun _ => lput_ne _ _ hid, fun b c hl hb' => hb.block b (hw.sep id o b c ho hl hb').2⟩
    · by_cases e1 : i1 = .own d <;> by_cases e2 : i2 = .own d
      · rw [e1, e2]
      · subst e1
        rw [lput_self] at b1
        rw [lput_ne _ _ e2] at b2
        rw [hput_ne _ _ e2] at h2
        have := (hw.sep i2 o2 b c2 h2 l2 b2).2
        simp at b1
        omega
      · subst e2
        rw [lput_self] at b2
        rw [lput_ne _ _ e1] at b1
        rw [hput_ne _ _ e1] at h1
        have := (hw.sep i1 o1 b c1 h1 l1 b1).2
        simp at b2
        omega
      · rw [hput_ne _ _ e1] at h1
        rw [hput_ne _ _ e2] at h2
        rw [lput_ne _ _ e1] at b1
        rw [lput_ne _ _ e2] at b2
        exact hw.inj i1 i2 o1 o2 b c1 c2 h1 l1 h2 l2 b1 b2
    · by_cases e1 : i = .own d
      · subst e1
        rw [lput_self] at hb'
        simp only [Option.some.injEq, Prod.mk.injEq] at hb'
        obtain ⟨rfl, rfl⟩ := hb'
        refine ⟨fun hu => ?_, hgl⟩
        have := hw.low _ hu
        omega
      · rw [hput_ne _ _ e1] at ho
        rw [lput_ne _ _ e1] at hb'
        have hs1 := hw.sep i o b c ho hl hb'
        have hs2 := hb.size
        exact ⟨hs1.1, Nat.lt_of_lt_of_le hs1.2 hs2⟩
    · unfold VW CW
      refine ⟨⟨_, _, _, rfl⟩, by rw [hput_self]; rfl, fun wr k' l' hl => ?_⟩
      rw [hput_self] at hl
      simp only [Option.some.injEq, Obj.row.injEq] at hl
      obtain ⟨rfl, rfl, hl⟩ := hl
      obtain rfl := eq_of_heq hl
      refine ⟨rfl, fun b c' hl => ?_, fun hn => ?_⟩
      · rw [lput_self] at hl
        simp only [Option.some.injEq, Prod.mk.injEq] at hl
        obtain ⟨rfl, rfl⟩ := hl
        rfl
      · rw [lput_self] at hn; cases hn

theorem sl_parts (hw : HW G U h loc w) {k : Kind} {x : V} {u : Value} {l : List (El k)} (hx : VW w (Mut U h loc) h loc u x) (hl : items h k x = some l) (hsl : slV x = true) :
    ∃ A c news, u = .slice A l.length c ∧ CWs w (Mut U h loc) h loc news ((flat k l).map C.f) ∧ (l ≠ [] → ∃ b o, A = some ⟨b, o, none⟩ ∧ ∀ (p : Nat) (u : Value), news[p]? = some u → w.cell? ⟨b, o + p, none⟩ = some u) := by
  unfold items at hl
  split at hl
  · rename_i t k' l'
    by_cases hk : k' = k
    · subst hk
      simp only [dite_true, Option.some.injEq] at hl
      subst hl
      unfold VW CW at hx
      obtain ⟨n, hn⟩ := hx
      obtain ⟨A, c, us, rfl, _, _, h3, h4, _⟩ := sl_cells (h := h) (loc := loc) hn
      exact ⟨A, c, us, rfl, h3, fun hne => by obtain ⟨b, o, hA, _, _, hcell⟩ := h4 hne; exact ⟨b, o, hA, hcell⟩⟩
    · simp [hk] at hl
  · rename_i id k'
    rw [Option.bind_eq_some_iff] at hl
    obtain ⟨ob, hob, hl⟩ := hl
    split at hl
    · rename_i wr k2 l2
      by_cases hk : k2 = k
      · subst hk
        simp only [dite_true, Option.some.injEq] at hl
        subst hl
        unfold VW CW at hx
        obtain ⟨_, _, hrow⟩ := hx
        obtain ⟨rfl, hown, htight⟩ := hrow _ _ _ hob
        cases hloc : loc id with
        | none =>
          obtain ⟨n, hn⟩ := htight hloc
          obtain ⟨A, c, us, rfl, _, _, h3, h4, _⟩ := sl_cells (h := h) (loc := loc) hn
          exact ⟨A, c, us, rfl, h3, fun hne => by obtain ⟨b, o, hA, _, _, hcell⟩ := h4 hne; exact ⟨b, o, hA, hcell⟩⟩
        | some bc =>
          obtain ⟨b, c⟩ := bc
          obtain rfl := hown b c hloc
          obtain ⟨us, T', hblk, hus, hlc, hcells⟩ := (hw.obj id _ hob).2 b c hloc
          have hle : l2.length * szOf k2 ≤ us.size := by rw [hus]; exact Nat.mul_le_mul_right _ hlc
          have hold : CWs w (Mut U h loc) h loc (us.toList.take (l2.length * szOf k2)) ((flat k2 l2).map C.f) := row_cells hle hcells
          refine ⟨_, c, _, rfl, hold, fun _ => ⟨b, 0, rfl, fun p u hp => ?_⟩⟩
          rw [cell_heap hblk, Nat.zero_add]
          rw [List.getElem?_take] at hp
          split at hp
          · simpa using hp
          · cases hp
      · simp [hk] at hl
    · cases hl
  · cases hsl
  · cases hl

theorem natV_ok {g : FuncId} {nt : Nt} (hn : NatOK P g nt) (hw : HW G U h loc w) {d : Nat} {us : List Value} {args : List V} {v : V} {e : Eff} (hargs : VWs w (Mut U h loc) h loc us args) (hc : natV h d nt args = some (v, e)) (he : applyE h e = some h') :
    (∃ fn c, P.funcs[g]? = some fn ∧ fn.body = some c ∧ (fn.name == "runtime.NumGoroutine") = false) ∧ Calls P g us.toArray w fun e w' => ∃ u loc', e = .returned u ∧ PostV G U h loc w h' v u w' loc' := by
  unfold natV at hc
  split at hc
  · rename_i k x
    rw [Option.bind_eq_some_iff] at hc
    obtain ⟨l, hl, hc⟩ := hc
    cases hq : (slV x && Nat.ble l.length appMax) with
    | false => rw [hq] at hc; cases hc
    | true =>
      rw [hq] at hc
      simp only [cond_true, Option.some.injEq, Prod.mk.injEq] at hc
      obtain ⟨rfl, rfl⟩ := hc
      rw [Bool.and_eq_true] at hq
      obtain ⟨hsl, hmax⟩ := hq
      have hmax := Nat.le_of_ble_eq_true hmax
      simp only [applyE] at he
      split at he
      · rename_i h0
        simp only [Option.some.injEq] at he
        subst he
        obtain ⟨hfn, hsome, hnil, hzero⟩ := hn
        refine ⟨hfn, ?_⟩
        match us, hargs with
        | [], hargs => unfold VWs at hargs; exact hargs.elim
        | _ :: _ :: _, hargs => unfold VWs VWs at hargs; exact hargs.2.elim
        | [u], hargs =>
          unfold VWs at hargs
          have hx := hargs.1
          have key := sl_parts hw hx hl hsl
          obtain ⟨A, c, news, rfl, hcs, hne⟩ := key
          by_cases hl0 : l = []
          · subst hl0
            have hnews : news = [] := by
              have := hcs.length
              simp [flat] at this
              exact this
            subst hnews
            cases A with
            | none =>
              refine (hnil c w).mono fun e w' => ?_
              rintro ⟨rfl, rfl⟩
              obtain ⟨loc', hp⟩ := newAt_ok (T := 0) hw h0 (Go.RowKit.Below.refl _ _) (v' := .slice none 0 0) ⟨by simp, .inl ⟨rfl, rfl⟩⟩ hcs
              exact ⟨_, loc', rfl, hp⟩
            | some a =>
              refine (hzero a c w).mono fun e w' => ?_
              rintro ⟨v', T, rfl, ho, hb⟩
              obtain ⟨loc', hp⟩ := newAt_ok hw h0 hb ho hcs
              exact ⟨_, loc', rfl, hp⟩
          · obtain ⟨b, o, rfl, hcell⟩ := hne hl0
            refine (hsome b o c l news w _ h loc hmax hcs hcell).mono fun e w' => ?_
            rintro ⟨v', T, rfl, ho, hb⟩
            obtain ⟨loc', hp⟩ := newAt_ok hw h0 hb ho hcs
            exact ⟨_, loc', rfl, hp⟩
      · cases he
  · cases hc

/-- A call of a value: a function of the program, what it has caught behind the arguments. -/
theorem callV_ok (ht : TabOK P cfg) {T Ti : CallSem} (hT : TOK G P T) (hTi : TOK G P Ti) (hw : HW G U h loc w) {me : FuncId} {d : Nat} {ty : TypeId} {f : V} {uf : Value} {us : List Value} {args : List V} {v : V} {e : Eff} (hfv : VW w (Mut U h loc) h loc uf f) (hargs : VWs w (Mut U h loc) h loc us args)
    (hc : callV cfg T Ti me h d ty f args = some (v, e)) (he : applyE h e = some h') :
    ∃ g cap, uf = .func (.func g) #[] cap ∧ (callFunc g (us.toArray ++ cap)).run P w = .ok (.enter g (us.toArray ++ cap)) w ∧ OpOK P G U h loc w h' v (.ok (.enter g (us.toArray ++ cap)) w) := by
  unfold callV at hc
  split at hc
  · rename_i g caps
    unfold VW CW at hfv
    obtain ⟨cs, rfl, hcaps⟩ := hfv
    have hall : VWs w (Mut U h loc) h loc (us ++ cs) (args ++ caps.map V.c) := hargs.append (CWs.toV hcaps)
    have harr : us.toArray ++ cs.toArray = (us ++ cs).toArray := by simp
    refine ⟨g, cs.toArray, rfl, ?_⟩
    rw [harr]
    have fin : (∃ fn c, P.funcs[g]? = some fn ∧ fn.body = some c ∧ (fn.name == "runtime.NumGoroutine") = false) ∧ (Calls P g (us ++ cs).toArray w fun e w' => ∃ u loc', e = .returned u ∧ PostV G U h loc w h' v u w' loc') →
        (callFunc g (us ++ cs).toArray).run P w = .ok (.enter g (us ++ cs).toArray) w ∧ OpOK P G U h loc w h' v (.ok (.enter g (us ++ cs).toArray) w) := by
      rintro ⟨⟨fn, c, h1, h2, h3⟩, hcall⟩
      exact ⟨run_callFunc_go h1 h3 h2 _ w, rfl, hcall⟩
    apply fin
    cases hn : cfg.nat g with
    | some nt =>
      rw [hn] at hc
      simp only at hc
      cases hcap : isNil caps with
      | false => rw [hcap] at hc; cases hc
      | true =>
        rw [hcap] at hc
        have hc0 : caps = [] := by cases caps <;> first | rfl | cases hcap
        subst hc0
        have hcs : cs = [] := by cases cs <;> first | rfl | (unfold CWs at hcaps; exact hcaps.elim)
        subst hcs
        rw [List.append_nil]
        exact natV_ok (ht.nat g nt hn) hw hargs hc he
    | none =>
    rw [hn] at hc
    simp only at hc
    split at hc
    · unfold retH at hc
      rw [Option.map_eq_some_iff] at hc
      obtain ⟨v', hv', heq⟩ := hc
      simp only [Prod.mk.injEq] at heq
      obtain ⟨rfl, rfl⟩ := heq
      simp only [applyE, Option.some.injEq] at he
      subst he
      obtain ⟨h1, h2⟩ := pcall_ok hT hw hall hv'
      exact ⟨h1, h2.mono fun e w' ⟨u, h3, h4⟩ => ⟨u, loc, h3, h4⟩⟩
    · exact hcallS_ok hT.frz hw hall hc he
    · exact hcall_ok hTi hw hall hc he
  · simp at hc

end
end Go.Vm

namespace Go.Vm
variable {G : Gl}
set_option linter.unusedVariables false
set_option linter.unusedSimpArgs false

section
variable {P : Program} {cfg : Cfg} {U : Nat → Prop} {h h' h2 : Hp} {loc loc' loc2 : Loc} {w w' : World} {a : Act} {fr : Fr} {M' : Nat → Prop}

theorem run_v {s : Sem Value} {u : Value} (hs : s.run P w = .ok u w') : (do pure (Next.value (← s)) : Sem Next).run P w = .ok (.value u) w' := by simp [Sem.run_bind, hs]

theorem arr_map {α β : Type} (g : α → β) (l : Array α) : l.map g = (l.toList.map g).toArray := by apply Array.ext'; simp

theorem run_u {s : Sem Unit} (hs : s.run P w = .ok () w') : (do s; pure Next.skip : Sem Next).run P w = .ok .skip w' := by simp [Sem.run_bind, hs]

theorem OpOK.ofRun (hw : HW G U h loc w) {s : Sem Value} {v : V} (hs : ∃ u, s.run P w = .ok u w ∧ VW w (Mut U h loc) h loc u v) : OpOK P G U h loc w h v ((do pure (Next.value (← s)) : Sem Next).run P w) := by
  obtain ⟨u, h1, h2⟩ := hs
  rw [run_v h1]
  exact OpOK.val hw h2

theorem retH_ok {x : Option V} {v : V} {e : Eff} (hr : retH x = some (v, e)) (he : applyE h e = some h') : x = some v ∧ h' = h := by
  unfold retH at hr
  rw [Option.map_eq_some_iff] at hr
  obtain ⟨y, rfl, heq⟩ := hr
  simp only [Prod.mk.injEq] at heq
  obtain ⟨rfl, rfl⟩ := heq
  simp only [applyE, Option.some.injEq] at he
  exact ⟨rfl, he.symm⟩

theorem isConst_ok {y : Operand} (hy : isConst y = true) : ∃ c, y = .const c := by
  cases y <;> simp [isConst] at hy
  exact ⟨_, rfl⟩

theorem blt_ok (ht : TabOK P cfg) (hw : HW G U h loc w) {nw : Bool} {d : Nat} {b : Builtin} {us : List Value} {args : List V} {tys : List TypeId} {ty : TypeId} {consts : Array Bool} {v : V} {e : Eff} (hargs : VWs w (Mut U h loc) h loc us args)
    (hb : blt cfg nw h d b args tys = some (v, e)) (he : applyE h e = some h') : OpOK P G U h loc w h' v ((builtin b tys.toArray ty consts us.toArray).run P w) := by
  unfold blt at hb
  split at hb
  · rename_i x T rest
    rw [Option.bind_eq_some_iff] at hb
    obtain ⟨i, hT, hb⟩ := hb
    cases hq : seqT i.desc x with
    | false => rw [hq] at hb; simp at hb
    | true =>
      rw [hq] at hb
      simp only [cond_true, Option.map_eq_some_iff, Prod.mk.injEq] at hb
      obtain ⟨n, hn, rfl, rfl⟩ := hb
      simp only [applyE, Option.some.injEq] at he
      subst he
      simp only [Option.bind_eq_bind, Option.bind_eq_some_iff, Option.pure_def, Option.some.injEq] at hn
      obtain ⟨n', hn, rfl⟩ := hn
      match us, hargs with
      | [], hargs => unfold VWs at hargs; exact hargs.elim
      | [p], hargs =>
        unfold VWs at hargs
        have := len_ok (ty := ty) (ts := rest) ht hw hT hq hargs.1 hn
        exact OpOK.ofRun hw ⟨_, this, VW.mk_int _ _⟩
      | _ :: _ :: _, hargs => unfold VWs VWs at hargs; exact hargs.2.elim
  · rename_i s x T T2
    rw [Option.bind_eq_some_iff] at hb
    obtain ⟨k, hk, hb⟩ := hb
    rw [Option.bind_eq_some_iff] at hb
    obtain ⟨i2, hT2, hb⟩ := hb
    cases hq : seqT i2.desc x with
    | false => rw [hq] at hb; simp at hb
    | true =>
      rw [hq] at hb
      simp only [cond_true] at hb
      match us, hargs with
      | [], hargs => unfold VWs at hargs; exact hargs.elim
      | [_], hargs => unfold VWs VWs at hargs; exact hargs.2.elim
      | [p, q], hargs =>
        unfold VWs VWs at hargs
        obtain ⟨u, w', loc', h1, h2⟩ : ∃ u w' loc', (Builtin.append_ #[T, T2] ty #[p, q]).run P w = .ok u w' ∧ PostV G U h loc w h' v u w' loc' := by
          cases nw with
          | false => exact app_ok (ty := ty) ht hw hk hT2 hq hargs.1 hargs.2.1 hb he
          | true => exact appNew_ok (ty := ty) ht hw hk hT2 hq hargs.1 hargs.2.1 hb he
        show OpOK P G U h loc w h' v ((do pure (Next.value (← Builtin.append_ [T, T2].toArray ty [p, q].toArray)) : Sem Next).run P w)
        rw [run_v (show (Builtin.append_ [T, T2].toArray ty [p, q].toArray).run P w = .ok u w' from h1)]
        exact ⟨loc', h2⟩
      | _ :: _ :: _ :: _, hargs => unfold VWs VWs VWs at hargs; exact hargs.2.2.elim
  · rename_i l ts
    obtain ⟨h1, rfl⟩ := retH_ok hb he
    have := mnmx_ok (mx := false) (P := P) (ts := tys.toArray) (ty := ty) hargs h1
    exact OpOK.ofRun hw this
  · rename_i l ts
    obtain ⟨h1, rfl⟩ := retH_ok hb he
    have := mnmx_ok (mx := true) (P := P) (ts := tys.toArray) (ty := ty) hargs h1
    exact OpOK.ofRun hw this
  · simp at hb

theorem run_alloc (ht : TabOK P cfg) {T : TypeId} {i : TI} (hT : cfg.tb T = some i) : (Instr.alloc T true (.tuple #[])).run P w = .ok (.pointer (some ⟨w.heap.size, 0, none⟩)) (w.alloc (.cells i.zv.cells T)) := by
  obtain ⟨x, hx, hz, _⟩ := ht.inf T i hT
  simp [Instr.alloc, zeroValue, typeInfo, Sem.run_bind, hx, hz, newVar, newRow]

theorem run_boxV (T : TypeId) (u : Value) : (Instr.box T u).run P w = .ok (.pointer (some ⟨w.heap.size, 0, none⟩)) (w.alloc (.cells u.cells T)) := by
  simp [Instr.box, newVar, newRow]

theorem aop_ok (ht : TabOK P cfg) {T Ti : CallSem} (hT : TOK G P T) (hTi : TOK G P Ti) (hw : HW G U h loc w) (hf : FrW w (Mut U h loc) h loc a fr) {me : FuncId} {o : Oper} {v : V} {e : Eff}
    (ha : aop cfg T Ti me fr h o.dst o.type o.op = some (v, e)) (he : applyE h e = some h') : OpOK P G U h loc w h' v ((execOp a.eval o).run P w) := by
  unfold aop at ha
  split at ha
  · rename_i x hop
    obtain ⟨h1, rfl⟩ := retH_ok ha he
    simp only [execOp, hop]
    exact OpOK.val hw (evT_ok hf h1)
  · rename_i x hop
    obtain ⟨h1, rfl⟩ := retH_ok ha he
    simp only [execOp, hop]
    exact OpOK.val hw (evT_ok hf h1)
  · rename_i c x y hop
    rw [Option.bind_eq_some_iff] at ha
    obtain ⟨cv, hcv, ha⟩ := ha
    rw [Option.bind_eq_some_iff] at ha
    obtain ⟨b, hb, ha⟩ := ha
    obtain ⟨hcb, _⟩ := asB_ok (ev_ok hf hcv) hb
    simp only [execOp, hop, hcb]
    cases b with
    | true =>
      simp only [cond_true] at ha
      obtain ⟨h1, rfl⟩ := retH_ok ha he
      simp [asBool]
      exact OpOK.val hw (evT_ok hf h1)
    | false =>
      simp only [cond_false] at ha
      obtain ⟨h1, rfl⟩ := retH_ok ha he
      simp [asBool]
      exact OpOK.val hw (evT_ok hf h1)
  · rename_i t hop
    rw [Option.bind_eq_some_iff] at ha
    obtain ⟨d, hd, ha⟩ := ha
    rw [Option.bind_eq_some_iff] at ha
    obtain ⟨i, hi, ha⟩ := ha
    simp only [execOp, hop]
    rw [run_v (run_alloc ht hi)]
    exact nbox_ok hw (zms_ok (ht.zer _ _ hi)) ha he
  · rename_i t x hop
    rw [Option.bind_eq_some_iff] at ha
    obtain ⟨d, hd, ha⟩ := ha
    rw [Option.bind_eq_some_iff] at ha
    obtain ⟨i, hi, ha⟩ := ha
    rw [Option.bind_eq_some_iff] at ha
    obtain ⟨xv, hx, ha⟩ := ha
    rw [Option.bind_eq_some_iff] at ha
    obtain ⟨cs, hcs, ha⟩ := ha
    cases hb : Nat.beq cs.length i.size with
    | false => rw [hb] at ha; simp at ha
    | true =>
      rw [hb] at ha
      simp only [cond_true] at ha
      simp only [execOp, hop]
      rw [run_v (run_boxV _ _)]
      exact nbox_ok hw (cellsV_ok (evT_ok hf hx) hcs) ha he
  · rename_i t ps hop
    obtain ⟨h1, rfl⟩ := retH_ok ha he
    simp only [execOp, hop]
    exact OpOK.ofRun hw (bld_ok ht hf h1)
  · rename_i t n ps hop
    simp only [execOp, hop]
    obtain ⟨u, w', loc', h2, h3⟩ := bldR_ok ht hw hf ha he
    rw [run_v h2]
    exact ⟨loc', h3⟩
  · rename_i t x hop
    rw [Option.bind_eq_some_iff] at ha
    obtain ⟨av, hav, ha⟩ := ha
    obtain ⟨h1, rfl⟩ := retH_ok ha he
    simp only [execOp, hop]
    exact OpOK.ofRun hw (ld_ok ht hw (ev_ok hf hav) h1)
  · rename_i t x y hop
    rw [Option.bind_eq_some_iff] at ha
    obtain ⟨av, hav, ha⟩ := ha
    rw [Option.bind_eq_some_iff] at ha
    obtain ⟨xv, hxv, ha⟩ := ha
    rw [Option.map_eq_some_iff] at ha
    obtain ⟨h'', hst, heq⟩ := ha
    simp only [Prod.mk.injEq] at heq
    obtain ⟨rfl, rfl⟩ := heq
    simp only [applyE, Option.some.injEq] at he
    subst he
    simp only [execOp, hop]
    obtain ⟨w', h1, h2, h3⟩ := st_ok ht hw (ev_ok hf hav) (evT_ok hf hxv) hst
    rw [run_u h1]
    exact ⟨loc, h2, h3, by unfold VW CW; rfl⟩
  · rename_i x hop
    rw [Option.bind_eq_some_iff] at ha
    obtain ⟨xv, hxv, ha⟩ := ha
    obtain ⟨h1, rfl⟩ := retH_ok ha he
    obtain ⟨rfl, ad, hp⟩ := ptrV_ok (ev_ok hf hxv) h1
    have hv := ev_ok hf hxv
    simp only [execOp, hop]
    rw [hp] at hv ⊢
    exact OpOK.val hw hv
  · rename_i op t x y q hop
    rw [Option.bind_eq_some_iff] at ha
    obtain ⟨av, hav, ha⟩ := ha
    rw [Option.bind_eq_some_iff] at ha
    obtain ⟨bv, hbv, ha⟩ := ha
    obtain ⟨h1, rfl⟩ := retH_ok ha he
    simp only [execOp, hop]
    obtain ⟨z, h2, h3⟩ := bin_ok (x := x) ht (ev_ok hf hav) (ev_ok hf hbv) isConst_ok h1
    exact OpOK.ofRun hw ⟨z, h3, h2⟩
  · rename_i op t x hop
    rw [Option.bind_eq_some_iff] at ha
    obtain ⟨av, hav, ha⟩ := ha
    obtain ⟨h1, rfl⟩ := retH_ok ha he
    simp only [execOp, hop]
    exact OpOK.ofRun hw (un_ok (ev_ok hf hav) h1)
  · rename_i s d x hop
    rw [Option.bind_eq_some_iff] at ha
    obtain ⟨av, hav, ha⟩ := ha
    obtain ⟨h1, rfl⟩ := retH_ok ha he
    simp only [execOp, hop]
    exact OpOK.ofRun hw (cnv_ok ht (ev_ok hf hav) h1)
  · rename_i t n c hop
    rw [Option.bind_eq_some_iff] at ha
    obtain ⟨d, hd, ha⟩ := ha
    rw [Option.bind_eq_some_iff] at ha
    obtain ⟨nv, hnv, ha⟩ := ha
    rw [Option.bind_eq_some_iff] at ha
    obtain ⟨cv, hcv, ha⟩ := ha
    simp only [execOp, hop]
    obtain ⟨u, w', loc', h1, h2⟩ := mk_ok ht hw (ev_ok hf hnv) (ev_ok hf hcv) ha he
    rw [run_v h1]
    exact ⟨loc', h2⟩
  · rename_i f first caps hop
    cases hfe : first.isEmpty with
    | false => rw [hfe] at ha; simp at ha
    | true =>
      rw [hfe] at ha
      simp only [cond_true, Option.map_eq_some_iff, Prod.mk.injEq] at ha
      obtain ⟨cs, hcs, rfl, rfl⟩ := ha
      simp only [applyE, Option.some.injEq] at he
      subst he
      have hemp : first = #[] := by simpa using hfe
      subst hemp
      simp only [execOp, hop]
      refine OpOK.ofRun hw ⟨.func (.func f) #[] (caps.map a.eval), by simp [Instr.makeFunc], ?_⟩
      unfold VW CW
      exact ⟨caps.toList.map a.eval, by rw [arr_map], caps_ok hf hcs⟩
  · rename_i t x lo hi mx hop
    rw [Option.bind_eq_some_iff] at ha
    obtain ⟨xv, hxv, ha⟩ := ha
    obtain ⟨h1, rfl⟩ := retH_ok ha he
    simp only [execOp, hop]
    exact OpOK.ofRun hw (slc_ok ht hf (ev_ok hf hxv) h1)
  · rename_i t x j hop
    rw [Option.bind_eq_some_iff] at ha
    obtain ⟨xv, hxv, ha⟩ := ha
    obtain ⟨h1, rfl⟩ := retH_ok ha he
    simp only [execOp, hop]
    exact OpOK.ofRun hw (fldA_ok ht (ev_ok hf hxv) h1)
  · rename_i t x j hop
    rw [Option.bind_eq_some_iff] at ha
    obtain ⟨xv, hxv, ha⟩ := ha
    obtain ⟨h1, rfl⟩ := retH_ok ha he
    simp only [execOp, hop]
    exact OpOK.ofRun hw (fld_ok ht (ev_ok hf hxv) h1)
  · rename_i t x j hop
    rw [Option.bind_eq_some_iff] at ha
    obtain ⟨xv, hxv, ha⟩ := ha
    rw [Option.bind_eq_some_iff] at ha
    obtain ⟨jv, hjv, ha⟩ := ha
    obtain ⟨h1, rfl⟩ := retH_ok ha he
    simp only [execOp, hop]
    exact OpOK.ofRun hw (ixA_ok ht hw (ev_ok hf hxv) (ev_ok hf hjv) h1)
  · rename_i t x j hop
    rw [Option.bind_eq_some_iff] at ha
    obtain ⟨xv, hxv, ha⟩ := ha
    rw [Option.bind_eq_some_iff] at ha
    obtain ⟨jv, hjv, ha⟩ := ha
    obtain ⟨h1, rfl⟩ := retH_ok ha he
    simp only [execOp, hop]
    exact OpOK.ofRun hw (ix_ok ht (ev_ok hf hxv) (ev_ok hf hjv) h1)
  · rename_i x j hop
    rw [Option.bind_eq_some_iff] at ha
    obtain ⟨xv, hxv, ha⟩ := ha
    obtain ⟨h1, rfl⟩ := retH_ok ha he
    simp only [execOp, hop]
    exact OpOK.ofRun hw (part_ok (ev_ok hf hxv) h1)
  · rename_i c hop
    rw [Option.bind_eq_some_iff] at ha
    obtain ⟨d, hd, ha⟩ := ha
    rw [Option.bind_eq_some_iff] at ha
    obtain ⟨args, hargs, ha⟩ := ha
    have hav := evTs_ok hf hargs
    have harr : c.args.map a.eval = (c.args.toList.map a.eval).toArray := arr_map _ _
    simp only [execOp, hop]
    cases hcal : c.callee with
    | value f =>
      rw [hcal] at ha
      simp only [Option.bind_eq_some_iff] at ha
      obtain ⟨fv, hfv, ha⟩ := ha
      obtain ⟨g, cap, h1, h2, h3⟩ := callV_ok ht hT hTi hw (ev_ok hf hfv) hav ha he
      have hr : (do let d ← resolve a.eval c o.type; invoke d.target d.args : Sem Next).run P w = .ok (.enter g ((c.args.toList.map a.eval).toArray ++ cap)) w := by
        unfold Go.resolve
        rw [harr, hcal]
        simp only [h1, Deferred.ofValue]
        simp [Sem.run_bind, Go.invoke]
        simpa using h2
      rw [hr]
      exact h3
    | builtin b =>
      rw [hcal] at ha
      have := blt_ok (ty := o.type) (consts := c.args.map fun | .const _ => true | _ => false) ht hw hav ha he
      have hr : (do let d ← resolve a.eval c o.type; invoke d.target d.args : Sem Next).run P w = (builtin b c.argTypes.toList.toArray o.type (c.args.map fun | .const _ => true | _ => false) (c.args.toList.map a.eval).toArray).run P w := by
        unfold Go.resolve
        rw [harr, hcal]
        simp [Sem.run_bind, Go.invoke]
        rfl
      rw [hr]
      exact this
    | invoke r n => rw [hcal] at ha; simp at ha
  · simp at ha

end
end Go.Vm
