/-
  The table of objects under other names.
-/
import Derived.Test.YtepghohkfnmhmaaDoorVmMem
namespace Go.Vm
variable {G : Gl}
set_option linter.unusedVariables false
set_option linter.unusedSimpArgs false

/-- Of one kind: a box and a box, a row and the same row, two that are gone. -/
def Same : Obj → Obj → Prop
  | .box _, .box _ => True
  | .row wr k l, o' => o' = .row wr k l
  | .dead, .dead => True
  | _, _ => False

theorem Same.live {o o' : Obj} (h : Same o o') : o'.live = o.live := by
  cases o <;> cases o' <;> simp [Same] at h <;> try rfl

structure Ren (m : List (Id × Id)) (h : Hp) (loc : Loc) (h' : Hp) (loc' : Loc) : Prop where
  to : ∀ a b o, look m a = some b → h a = some o → ∃ o', h' b = some o' ∧ Same o o' ∧ loc' b = loc a

theorem CellW.mono {w : World} {M M' : Nat → Prop} (hM : ∀ b, M' b → M b) : ∀ {n : Nat} {v : Value} {f : F}, CellW w M n v f → CellW w M' n v f
  | 0, v, .sc u, h => h
  | 0, v, .err, h => h
  | n + 1, v, .sc u, h => h
  | n + 1, v, .err, h => h
  | n + 1, v, .sl t k l, ⟨A, c, h1, h2, h3, h4⟩ => ⟨A, c, h1, h2, h3, fun i x hx => by
      obtain ⟨b, o, ha, hm, hb, hc⟩ := h4 i x hx
      exact ⟨b, o, ha, fun h => hm (hM b h), hb, fun j f hf => by obtain ⟨u, hu, hr⟩ := hc j f hf; exact ⟨u, hu, CellW.mono hM hr⟩⟩⟩
  | n + 1, v, .ep k x off, ⟨b, o, h1, hm, hb, hc⟩ => ⟨b, o, h1, fun h => hm (hM b h), hb, fun j f hf => by obtain ⟨u, hu, hr⟩ := hc j f hf; exact ⟨u, hu, CellW.mono hM hr⟩⟩

section
variable {w : World} {M M' : Nat → Prop} {h h' : Hp} {loc loc' : Loc} {m : List (Id × Id)} {U U' : Nat → Prop}

mutual
theorem CW.ren (r : Ren m h loc h' loc') (hM : ∀ b, M' b → M b) : ∀ (c : C) {v : Value}, CW w M h loc v c → CW w M' h' loc' v (renC m c)
  | .f x, v, hc => by
    unfold renC
    unfold CW at hc ⊢
    obtain ⟨n, hn⟩ := hc
    exact ⟨n, hn.mono hM⟩
  | .bx id off, v, hc => by
    unfold renC
    cases hl : look m id with
    | none => simp only; unfold CW; trivial
    | some j =>
      simp only
      unfold CW at hc ⊢
      obtain ⟨⟨ds, ho⟩, b, c, hb, hv⟩ := hc
      obtain ⟨o', ho', hs, hlo⟩ := r.to _ _ _ hl ho
      cases o' with
      | box cs => exact ⟨⟨cs, ho'⟩, b, c, by rw [hlo]; exact hb, hv⟩
      | row => simp [Same] at hs
      | dead => simp [Same] at hs
  | .row id k, v, hc => by
    unfold renC
    cases hl : look m id with
    | none => simp only; unfold CW; trivial
    | some j =>
      simp only
      unfold CW at hc ⊢
      obtain ⟨hsh, h1, h2⟩ := hc
      obtain ⟨o, ho⟩ := Option.isSome_iff_exists.1 h1
      obtain ⟨o', ho', hs, hlo⟩ := r.to _ _ _ hl ho
      refine ⟨hsh, by rw [ho']; rfl, fun wr k' l hcs => ?_⟩
      rw [ho'] at hcs
      obtain rfl := Option.some.inj hcs
      cases o with
      | box ds => simp [Same] at hs
      | dead => simp [Same] at hs
      | row wr0 k0 l0 =>
        simp only [Same, Obj.row.injEq] at hs
        obtain ⟨rfl, rfl, hs⟩ := hs
        obtain rfl := eq_of_heq hs
        obtain ⟨rfl, h3, h4⟩ := h2 _ _ _ ho
        refine ⟨rfl, fun b c hb => h3 b c (by rw [← hlo]; exact hb), fun hb => ?_⟩
        obtain ⟨n, hn⟩ := h4 (by rw [← hlo]; exact hb)
        exact ⟨n, hn.mono hM⟩
  | .re id k i off, v, hc => by
    unfold renC
    cases hl : look m id with
    | none => simp only; unfold CW; trivial
    | some j =>
      simp only
      unfold CW at hc ⊢
      obtain ⟨h1, h2, b, c, hb, hv⟩ := hc
      obtain ⟨o, ho⟩ := Option.isSome_iff_exists.1 h1
      obtain ⟨o', ho', hs, hlo⟩ := r.to _ _ _ hl ho
      refine ⟨by rw [ho']; rfl, fun wr k' l hcs => ?_, b, c, by rw [hlo]; exact hb, hv⟩
      rw [ho'] at hcs
      obtain rfl := Option.some.inj hcs
      cases o with
      | box ds => simp [Same] at hs
      | dead => simp [Same] at hs
      | row wr0 k0 l0 =>
        simp only [Same, Obj.row.injEq] at hs
        obtain ⟨rfl, rfl, hs⟩ := hs
        exact h2 _ _ _ ho
  | .fn f caps, v, hc => by
    unfold renC
    unfold CW at hc ⊢
    obtain ⟨us, hv, hs⟩ := hc
    exact ⟨us, hv, CWs.ren r hM caps hs⟩
  | .hole, v, hc => by unfold renC CW; trivial
  | .und, v, hc => by unfold renC; unfold CW at hc ⊢; exact hc
theorem CWs.ren (r : Ren m h loc h' loc') (hM : ∀ b, M' b → M b) : ∀ (cs : List C) {vs : List Value}, CWs w M h loc vs cs → CWs w M' h' loc' vs (renCs m cs)
  | [], [], _ => by unfold renCs CWs; trivial
  | [], _ :: _, hc => by unfold CWs at hc; exact hc.elim
  | c :: cs, [], hc => by unfold CWs at hc; exact hc.elim
  | c :: cs, v :: vs, hc => by unfold renCs; unfold CWs at hc ⊢; exact ⟨CW.ren r hM c hc.1, CWs.ren r hM cs hc.2⟩
end

mutual
theorem VW.ren (r : Ren m h loc h' loc') (hM : ∀ b, M' b → M b) : ∀ (c : V) {v : Value}, VW w M h loc v c → VW w M' h' loc' v (renV m c)
  | .c x, v, hc => by unfold renV; unfold VW at hc ⊢; exact CW.ren r hM x hc
  | .agg cs, v, hc => by
    unfold renV
    unfold VW at hc ⊢
    obtain ⟨us, hv, hs⟩ := hc
    exact ⟨us, hv, CWs.ren r hM cs hs⟩
  | .tup vs, v, hc => by
    unfold renV
    unfold VW at hc ⊢
    obtain ⟨us, hv, hs⟩ := hc
    exact ⟨us, hv, VWs.ren r hM vs hs⟩
theorem VWs.ren (r : Ren m h loc h' loc') (hM : ∀ b, M' b → M b) : ∀ (cs : List V) {vs : List Value}, VWs w M h loc vs cs → VWs w M' h' loc' vs (renVs m cs)
  | [], [], _ => by unfold renVs VWs; trivial
  | [], _ :: _, hc => by unfold VWs at hc; exact hc.elim
  | c :: cs, [], hc => by unfold VWs at hc; exact hc.elim
  | c :: cs, v :: vs, hc => by unfold renVs; unfold VWs at hc ⊢; exact ⟨VW.ren r hM c hc.1, VWs.ren r hM cs hc.2⟩
end

theorem renO_same (o : Obj) : Same o (renO m o) := by cases o <;> simp [Same, renO]

theorem OW.ren (r : Ren m h loc h' loc') (hM : ∀ b, M' b → M b) {a b : Id} (hl : loc' b = loc a) : ∀ {o : Obj}, OW w M h loc a o → OW w M' h' loc' b (renO m o)
  | .box cs, ⟨blk, c, us, T, h1, h2, h3⟩ => ⟨blk, c, us, T, by rw [hl]; exact h1, h2, CWs.ren r hM cs h3⟩
  | .row wr k l, ⟨ha, hb⟩ => by
    unfold renO
    exact ⟨fun hn hw => ha (by rw [← hl]; exact hn) hw, fun blk c hlo => by
      obtain ⟨us, T, h3, h4, h5, h6⟩ := hb blk c (by rw [← hl]; exact hlo)
      exact ⟨us, T, h3, h4, h5, fun i x j f hx hf => by obtain ⟨u, n, hu, hr⟩ := h6 i x j f hx hf; exact ⟨u, n, hu, hr.mono hM⟩⟩⟩
  | .dead, _ => by unfold renO; trivial

/-- Where the new table's live objects come from. -/
def Src' (m : List (Id × Id)) (h : Hp) (loc : Loc) (h' : Hp) (loc' : Loc) : Prop :=
  ∀ b o' blk c, h' b = some o' → o'.live = true → loc' b = some (blk, c) → ∃ a o, look m a = some b ∧ h a = some o ∧ o.live = true ∧ loc a = some (blk, c)

theorem Mut.ren (hU : ∀ b, U' b → Mut U h loc b) (hs : Src' m h loc h' loc') : ∀ b, Mut U' h' loc' b → Mut U h loc b := by
  rintro b (hu | ⟨id, o, c, ho, hl, hlo⟩)
  · exact hU b hu
  · obtain ⟨a, o0, _, h1, h2, h3⟩ := hs id o b c ho hl hlo
    exact .inr ⟨a, o0, c, h1, h2, h3⟩

theorem HW.mutLow (hw : HW G U h loc w) {b : Nat} (hb : Mut U h loc b) : b < w.heap.size := by
  rcases hb with hu | ⟨id, o, c, ho, hl, hlo⟩
  · exact hw.low b hu
  · exact (hw.sep id o b c ho hl hlo).2

theorem HW.ren (hw : HW G U h loc w) (hUU : ∀ b, U b → U' b) (hU : ∀ b, U' b → Mut U h loc b) (hs : Src' m h loc h' loc')
    (hd : ∀ a b o blk c, look m a = some b → h a = some o → o.live = true → loc a = some (blk, c) → ¬ U' blk)
    (hobj : ∀ b o', h' b = some o' → OW w (Mut U' h' loc') h' loc' b o') : HW G U' h' loc' w := by
  refine ⟨hobj, ?_, ?_, fun b hb => hw.mutLow (hU b hb), hw.gl.1, fun b hb => ⟨(hw.gl.2 b hb).1, (hw.gl.2 b hb).2.elim (fun h => .inl (hUU b h)) (fun h => .inr fun hm => h (Mut.ren hU hs b hm))⟩⟩
  · intro i1 i2 o1 o2 blk c1 c2 h1 l1 h2 l2 e1 e2
    obtain ⟨a1, p1, q1, r1, s1, t1⟩ := hs i1 o1 blk c1 h1 l1 e1
    obtain ⟨a2, p2, q2, r2, s2, t2⟩ := hs i2 o2 blk c2 h2 l2 e2
    have := hw.inj a1 a2 p1 p2 blk c1 c2 r1 s1 r2 s2 t1 t2
    subst this
    rw [q1] at q2
    exact Option.some.inj q2
  · intro i o blk c h1 l1 e1
    obtain ⟨a1, p1, q1, r1, s1, t1⟩ := hs i o blk c h1 l1 e1
    exact ⟨hd a1 i p1 blk c q1 r1 s1 t1, (hw.sep a1 p1 blk c r1 s1 t1).2⟩

/-! ### Lists of names -/

theorem memId_iff {i : Id} : ∀ {l : List Id}, memId i l = true ↔ i ∈ l
  | [] => by simp [memId]
  | j :: l => by
    simp only [memId, Bool.or_eq_true, List.mem_cons, memId_iff (l := l), Id.beq_true]
    constructor
    · rintro (rfl | h)
      · exact .inl rfl
      · exact .inr h
    · rintro (rfl | h)
      · exact .inl rfl
      · exact .inr h

theorem distinct_get : ∀ {l : List Id}, distinct l = true → ∀ {i j : Nat} {x : Id}, l[i]? = some x → l[j]? = some x → i = j
  | [], _, i, j, x, hi, _ => by simp at hi
  | y :: l, hd, i, j, x, hi, hj => by
    simp only [distinct, Bool.and_eq_true, Bool.not_eq_true'] at hd
    have hno : y ∉ l := by
      intro h
      rw [memId_iff.2 h] at hd
      exact absurd hd.1 (by simp)
    cases i with
    | zero =>
      simp at hi; subst hi
      cases j with
      | zero => rfl
      | succ j => simp at hj; exact absurd (List.mem_of_getElem? hj) hno
    | succ i =>
      simp at hi
      cases j with
      | zero => simp at hj; subst hj; exact absurd (List.mem_of_getElem? hi) hno
      | succ j => simp at hj; rw [distinct_get hd.2 hi hj]

theorem allIn_iff {l : List Id} : ∀ {r : List Id}, allIn l r = true ↔ ∀ i ∈ r, i ∈ l
  | [] => by simp [allIn]
  | i :: r => by simp [allIn, memId_iff, allIn_iff (r := r)]

theorem look_numFrom {mk : Nat → Id} : ∀ {ids : List Id} {n : Nat} {i b : Id}, look (numFrom mk n ids) i = some b → ∃ j, ids[j]? = some i ∧ b = mk (n + j)
  | [], n, i, b, h => by simp [numFrom, look] at h
  | x :: ids, n, i, b, h => by
    simp only [numFrom, look] at h
    cases hb : Id.beq x i with
    | true =>
      rw [hb] at h
      simp at h
      obtain rfl := Id.beq_true.1 hb
      exact ⟨0, rfl, h.symm⟩
    | false =>
      rw [hb] at h
      obtain ⟨j, h1, h2⟩ := look_numFrom h
      exact ⟨j + 1, by simpa using h1, by rw [h2]; congr 1; omega⟩

theorem look_numFrom_get {mk : Nat → Id} : ∀ {ids : List Id} {n j : Nat} {i : Id}, distinct ids = true → ids[j]? = some i → look (numFrom mk n ids) i = some (mk (n + j))
  | [], n, j, i, _, h => by simp at h
  | x :: ids, n, j, i, hd, h => by
    simp only [numFrom, look]
    cases hb : Id.beq x i with
    | true =>
      obtain rfl := Id.beq_true.1 hb
      have := distinct_get hd (i := 0) (j := j) rfl h
      subst this
      simp
    | false =>
      simp only [cond_false]
      cases j with
      | zero => simp at h; subst h; rw [Id.beq_self] at hb; cases hb
      | succ j =>
        simp only [distinct, Bool.and_eq_true] at hd
        rw [look_numFrom_get hd.2 (by simpa using h)]
        congr 2
        omega

theorem hpOf_some {mk : Nat → Id} : ∀ {os : List Obj} {n : Nat} {b : Id} {o : Obj}, hpOf mk n os b = some o → ∃ j, b = mk (n + j) ∧ os[j]? = some o
  | [], n, b, o, h => by simp [hpOf] at h
  | x :: os, n, b, o, h => by
    simp only [hpOf] at h
    cases hb : Id.beq b (mk n) with
    | true =>
      rw [hb] at h
      simp at h
      exact ⟨0, Id.beq_true.1 hb, by simpa using h⟩
    | false =>
      rw [hb] at h
      obtain ⟨j, h1, h2⟩ := hpOf_some h
      exact ⟨j + 1, by rw [h1]; congr 1; omega, by simpa using h2⟩

theorem hpOf_get {mk : Nat → Id} (hi : ∀ a b, mk a = mk b → a = b) : ∀ {os : List Obj} {n j : Nat}, hpOf mk n os (mk (n + j)) = os[j]?
  | [], n, j => by simp [hpOf]
  | x :: os, n, 0 => by simp [hpOf, Id.beq_self]
  | x :: os, n, j + 1 => by
    have hne : mk (n + (j + 1)) ≠ mk n := fun h => by have := hi _ _ h; omega
    simp only [hpOf, Id.beq_ne hne, cond_false]
    rw [show n + (j + 1) = n + 1 + j by omega, hpOf_get hi]
    simp

theorem arg_inj : ∀ a b, Id.arg a = Id.arg b → a = b := fun a b h => by simpa using h
theorem ret_inj (s : Nat) : ∀ a b, Id.ret s a = Id.ret s b → a = b := fun a b h => by simpa using h

theorem hpOf_arg {os : List Obj} {j : Nat} : hpOf .arg 0 os (.arg j) = os[j]? := by
  have := hpOf_get arg_inj (os := os) (n := 0) (j := j)
  simpa using this

theorem hpOf_ret {os : List Obj} {s j : Nat} : hpOf (.ret s) 0 os (.ret s j) = os[j]? := by
  have := hpOf_get (ret_inj s) (os := os) (n := 0) (j := j)
  simpa using this

theorem hpOf_arg_ne {os : List Obj} {b : Id} (hb : ∀ j, b ≠ .arg j) : hpOf .arg 0 os b = none := by
  cases h : hpOf .arg 0 os b with
  | none => rfl
  | some o => obtain ⟨j, h1, _⟩ := hpOf_some h; exact absurd h1 (hb _)

theorem getAll_some : ∀ {ids : List Id} {os : List Obj}, getAll h ids = some os → os.length = ids.length ∧ ∀ (j : Nat) (i : Id), ids[j]? = some i → ∃ o, h i = some o ∧ os[j]? = some o
  | [], os, hg => by simp [getAll] at hg; subst hg; exact ⟨rfl, fun j i hi => by simp at hi⟩
  | i :: ids, os, hg => by
    simp only [getAll, Option.bind_eq_some_iff, Option.some.injEq] at hg
    obtain ⟨o, ho, l, hl, rfl⟩ := hg
    obtain ⟨h1, h2⟩ := getAll_some hl
    refine ⟨by simp [h1], fun j x hx => ?_⟩
    cases j with
    | zero => simp at hx; subst hx; exact ⟨o, ho, rfl⟩
    | succ j => simpa using h2 j x (by simpa using hx)

end
end Go.Vm
