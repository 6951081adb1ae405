/-
  Calls: what a function answers, told of the machine's data; a callee that is handed no memory.
-/
import Derived.Test.YtepghohkfnmhmaaDoorVmCast
import Derived.Conc.MuLone
namespace Go.Vm
variable {G : Gl}
set_option linter.unusedVariables false
set_option linter.unusedSimpArgs false

/-- What leaves a call: the objects that were handed in, the new ones. -/
def outHp (os ns : List Obj) : Hp := fun i => match hpOf .arg 0 os i with | some o => some o | none => hpOf (.ret 0) 0 ns i

/-- What a call does, whatever memory is around. -/
def CallOK (G : Gl) (P : Program) (f : FuncId) (args : List V) (objs : List Obj) (r : V × List Obj × List Obj) : Prop :=
  ∀ U loc w (vs : List Value), HW G U (hpOf .arg 0 objs) loc w → VWs w (Mut U (hpOf .arg 0 objs) loc) (hpOf .arg 0 objs) loc vs args →
    Calls P f vs.toArray w fun e w' => ∃ u loc', e = .returned u ∧ PostV G U (hpOf .arg 0 objs) loc w (outHp r.2.1 r.2.2) r.1 u w' loc'

structure FnOK (G : Gl) (P : Program) (f : FuncId) (args : List V) (objs : List Obj) (r : V × List Obj × List Obj) : Prop where
  fn : ∃ fn c, P.funcs[f]? = some fn ∧ fn.body = some c ∧ (fn.name == "runtime.NumGoroutine") = false
  len : r.2.1.length = objs.length
  calls : CallOK G P f args objs r

def TOK (G : Gl) (P : Program) (T : CallSem) : Prop := ∀ f args objs r, T f args objs = some r → FnOK G P f args objs r

section
variable {P : Program} {cfg : Cfg} {U : Nat → Prop} {h h' h2 : Hp} {loc loc' loc2 : Loc} {w w' : World} {a : Act} {fr : Fr} {M' : Nat → Prop}

/-! ### Frozen -/

theorem row_bound {M : Nat → Prop} {us : Array Value} {k : Kind} {l : List (El k)} {sz : Nat} (hz : us.size = sz * szOf k) (hl : l.length ≤ sz)
    (hc : ∀ i x j f, l[i]? = some x → (cellsOf k x)[j]? = some f → ∃ u n, us[i * szOf k + j]? = some u ∧ CellW w M n u f) :
    ∃ n, ∀ i x j f, l[i]? = some x → (cellsOf k x)[j]? = some f → ∃ u, us[i * szOf k + j]? = some u ∧ CellW w M n u f := by
  have h1 : CWs w M (fun _ => none) (fun _ => none) (us.toList.take (l.length * szOf k)) ((flat k l).map C.f) := row_cells (by rw [hz]; exact Nat.mul_le_mul_right _ hl) hc
  obtain ⟨n, hn⟩ := newTight_ok.CWs.bound h1
  refine ⟨n, fun i x j f hx hf => ?_⟩
  have hg := flat_get k l i j x f hx hf
  obtain ⟨u, hu, _⟩ := h1.get (j := i * szOf k + j) (c := .f f) (by rw [List.getElem?_map, hg]; rfl)
  refine ⟨u, ?_, hn _ u f hu (by rw [List.getElem?_map, hg]; rfl)⟩
  rw [List.getElem?_take] at hu
  split at hu
  · simpa using hu
  · cases hu

/-- A snapshot holds where the blocks it looks at may not be written. -/
theorem snapC_ok (hw : HW G U h loc w) (hM : ∀ b, M' b → Mut U h loc b) {c c' : C} {v : Value} (hr : ∀ id ∈ refsC c, ∀ o b k, h id = some o → o.live = true → loc id = some (b, k) → ¬ M' b)
    (hs : snapC h c = some c') (hc : CW w (Mut U h loc) h loc v c) : CW w M' h2 loc2 v c' := by
  unfold snapC at hs
  split at hs
  · simp at hs; subst hs
    unfold CW at hc ⊢
    obtain ⟨n, hn⟩ := hc
    exact ⟨n, hn.mono hM⟩
  · rename_i id k
    rw [Option.bind_eq_some_iff] at hs
    obtain ⟨o, ho, hs⟩ := hs
    split at hs
    · rename_i wr k2 l
      by_cases hk : k2 = k
      · simp [hk] at hs
        subst hs
        unfold CW at hc ⊢
        obtain ⟨_, _, hrow⟩ := hc
        obtain ⟨rfl, hown, htight⟩ := hrow _ _ _ ho
        cases hloc : loc id with
        | none =>
          obtain ⟨n, hn⟩ := htight hloc
          cases n with
          | zero => exact hn.elim
          | succ n => exact ⟨n + 1, (CellW.mono hM hn).loose⟩
        | some bc =>
          obtain ⟨b, cc⟩ := bc
          obtain rfl := hown b cc hloc
          obtain ⟨us, T, hb, hus, hlc, hcells⟩ := (hw.obj id _ ho).2 b cc hloc
          obtain ⟨n, hn⟩ := row_bound hus hlc hcells
          refine ⟨n + 1, _, _, rfl, hlc, fun hh => by simp at hh, fun i x hx => ⟨b, 0, rfl, hr id (by simp [refsC]) _ b cc ho rfl hloc, (hw.sep id _ b cc ho rfl hloc).2, fun j f hf => ?_⟩⟩
          obtain ⟨u, hu, hcw⟩ := hn i x j f hx hf
          exact ⟨u, by rw [cell_heap hb, Nat.zero_add]; exact hu, hcw.mono hM⟩
      · simp [hk] at hs
    · simp at hs
  · rename_i id k i off
    rw [Option.bind_eq_some_iff] at hs
    obtain ⟨o, ho, hs⟩ := hs
    split at hs
    · rename_i wr k2 l
      by_cases hk : k2 = k
      · simp only [hk, decide_true, cond_true, Option.bind_eq_some_iff, Option.some.injEq] at hs
        obtain ⟨x, hx, rfl⟩ := hs
        unfold CW at hc ⊢
        obtain ⟨_, hkk, b, cc, hloc, rfl⟩ := hc
        have := hkk _ _ _ ho
        subst this
        obtain ⟨us, T, hb, hus, hlc, hcells⟩ := (hw.obj id _ ho).2 b cc hloc
        obtain ⟨n, hn⟩ := row_bound hus hlc hcells
        refine ⟨n + 1, b, i * szOf k2, rfl, hr id (by simp [refsC]) _ b cc ho rfl hloc, (hw.sep id _ b cc ho rfl hloc).2, fun j f hf => ?_⟩
        obtain ⟨u, hu, hcw⟩ := hn i x j f hx hf
        exact ⟨u, by rw [cell_heap hb]; exact hu, hcw.mono hM⟩
      · simp [hk] at hs
    · simp at hs
  · rename_i f
    simp at hs; subst hs
    unfold CW at hc ⊢
    obtain ⟨us, hv, hs⟩ := hc
    refine ⟨us, hv, ?_⟩
    match us, hs with
    | [], _ => unfold CWs; trivial
    | _ :: _, hs => unfold CWs at hs; exact hs.elim
  · simp at hs; subst hs
    unfold CW at hc ⊢
    exact hc
  · simp at hs

theorem snapCs_ok (hw : HW G U h loc w) (hM : ∀ b, M' b → Mut U h loc b) : ∀ {cs cs' : List C} {vs : List Value} (hr : ∀ id ∈ refsCs cs, ∀ o b k, h id = some o → o.live = true → loc id = some (b, k) → ¬ M' b),
    lmapM (snapC h) cs = some cs' → CWs w (Mut U h loc) h loc vs cs → CWs w M' h2 loc2 vs cs'
  | [], cs', vs, hr, hs, hc => by
    simp [lmapM] at hs; subst hs
    match vs, hc with
    | [], _ => unfold CWs; trivial
    | _ :: _, hc => unfold CWs at hc; exact hc.elim
  | c :: cs, cs', [], hr, hs, hc => by unfold CWs at hc; exact hc.elim
  | c :: cs, cs', v :: vs, hr, hs, hc => by
    simp only [lmapM, Option.bind_eq_some_iff, Option.some.injEq] at hs
    obtain ⟨d, hd, r, hr2, rfl⟩ := hs
    unfold CWs at hc ⊢
    exact ⟨snapC_ok hw hM (fun id hid => hr id (by simp [refsCs, hid])) hd hc.1, snapCs_ok hw hM (fun id hid => hr id (by simp [refsCs, hid])) hr2 hc.2⟩

theorem CW.lo {w : World} {M : Nat → Prop} {h : Hp} {loc : Loc} {v : Value} : ∀ {c : C}, CW w M h loc v c → CW w M h loc v (loC c)
  | .f (.sl t k l), hc => hc.loose
  | .f (.sc _), hc => hc
  | .f (.ep _ _ _), hc => hc
  | .f .err, hc => hc
  | .bx _ _, hc => hc
  | .row _ _, hc => hc
  | .re _ _ _ _, hc => hc
  | .fn _ _, hc => hc
  | .hole, hc => hc
  | .und, hc => hc

theorem CWs.lo {w : World} {M : Nat → Prop} {h : Hp} {loc : Loc} : ∀ {cs : List C} {vs : List Value}, CWs w M h loc vs cs → CWs w M h loc vs (cs.map loC)
  | [], [], hc => hc
  | [], _ :: _, hc => hc
  | _ :: _, [], hc => hc
  | c :: cs, v :: vs, hc => by
    unfold CWs at hc
    simp only [List.map_cons]
    unfold CWs
    exact ⟨hc.1.lo, CWs.lo hc.2⟩

theorem snapV_ok (hw : HW G U h loc w) (hM : ∀ b, M' b → Mut U h loc b) {v v' : V} {u : Value} (hr : ∀ id ∈ refsV v, ∀ o b k, h id = some o → o.live = true → loc id = some (b, k) → ¬ M' b)
    (hs : snapV h v = some v') (hc : VW w (Mut U h loc) h loc u v) : VW w M' h2 loc2 u v' := by
  cases v with
  | c x =>
    simp only [snapV, Option.map_eq_some_iff] at hs
    obtain ⟨d, hd, rfl⟩ := hs
    unfold VW at hc ⊢
    exact (snapC_ok hw hM (by simpa [refsV] using hr) hd hc).lo
  | agg cs =>
    simp only [snapV, Option.map_eq_some_iff] at hs
    obtain ⟨d, hd, rfl⟩ := hs
    unfold VW at hc ⊢
    obtain ⟨us, e, hcs⟩ := hc
    exact ⟨us, e, (snapCs_ok hw hM (by simpa [refsV] using hr) hd hcs).lo⟩
  | tup vs => simp [snapV] at hs

theorem snapVs_ok (hw : HW G U h loc w) (hM : ∀ b, M' b → Mut U h loc b) : ∀ {cs cs' : List V} {vs : List Value} (hr : ∀ id ∈ refsVs cs, ∀ o b k, h id = some o → o.live = true → loc id = some (b, k) → ¬ M' b),
    lmapM (snapV h) cs = some cs' → VWs w (Mut U h loc) h loc vs cs → VWs w M' h2 loc2 vs cs'
  | [], cs', vs, hr, hs, hc => by
    simp [lmapM] at hs; subst hs
    match vs, hc with
    | [], _ => unfold VWs; trivial
    | _ :: _, hc => unfold VWs at hc; exact hc.elim
  | c :: cs, cs', [], hr, hs, hc => by unfold VWs at hc; exact hc.elim
  | c :: cs, cs', v :: vs, hr, hs, hc => by
    simp only [lmapM, Option.bind_eq_some_iff, Option.some.injEq] at hs
    obtain ⟨d, hd, r, hr2, rfl⟩ := hs
    unfold VWs at hc ⊢
    exact ⟨snapV_ok hw hM (fun id hid => hr id (by simp [refsVs, hid])) hd hc.1, snapVs_ok hw hM (fun id hid => hr id (by simp [refsVs, hid])) hr2 hc.2⟩

/-- What comes back frozen. -/
theorem frzBack_ok (hw : HW G U h loc w) {v v' : V} {u : Value} (hs : frzBack h v = some v') (hc : VW w (Mut U h loc) h loc u v) : VW w U h2 loc2 u v' := by
  have hM : ∀ b, U b → Mut U h loc b := fun b hb => .inl hb
  have hr : ∀ id, ∀ o b k, h id = some o → o.live = true → loc id = some (b, k) → ¬ U b := fun id o b k ho hl hlo => (hw.sep id o b k ho hl hlo).1
  cases v with
  | c x =>
    simp only [frzBack, Option.map_eq_some_iff] at hs
    obtain ⟨d, hd, rfl⟩ := hs
    unfold VW at hc ⊢
    exact snapC_ok hw hM (fun id _ => hr id) hd hc
  | agg cs =>
    simp only [frzBack, Option.map_eq_some_iff] at hs
    obtain ⟨d, hd, rfl⟩ := hs
    unfold VW at hc ⊢
    obtain ⟨us, e, hcs⟩ := hc
    exact ⟨us, e, snapCs_ok hw hM (fun id _ => hr id) hd hcs⟩
  | tup vs =>
    simp only [frzBack, Option.map_eq_some_iff] at hs
    obtain ⟨d, hd, rfl⟩ := hs
    unfold VW at hc ⊢
    obtain ⟨us, e, hcs⟩ := hc
    refine ⟨us, e, ?_⟩
    clear e
    induction vs generalizing d us with
    | nil =>
      simp [lmapM] at hd; subst hd
      match us, hcs with
      | [], _ => unfold VWs; trivial
      | _ :: _, hcs => unfold VWs at hcs; exact hcs.elim
    | cons y ys ih =>
      match us, hcs with
      | [], hcs => unfold VWs at hcs; exact hcs.elim
      | u :: us, hcs =>
        simp only [lmapM, Option.bind_eq_some_iff, Option.some.injEq] at hd
        obtain ⟨z, hz, r, hr2, rfl⟩ := hd
        unfold VWs at hcs ⊢
        refine ⟨?_, ih r hr2 us hcs.2⟩
        have h1 := hcs.1
        cases y with
        | c x =>
          simp only [Option.map_eq_some_iff] at hz
          obtain ⟨d, hd, rfl⟩ := hz
          unfold VW at h1 ⊢
          exact snapC_ok hw hM (fun id _ => hr id) hd h1
        | agg cs =>
          simp only [Option.map_eq_some_iff] at hz
          obtain ⟨d, hd, rfl⟩ := hz
          unfold VW at h1 ⊢
          obtain ⟨us, e, hcs⟩ := h1
          exact ⟨us, e, snapCs_ok hw hM (fun id _ => hr id) hd hcs⟩
        | tup vs => simp at hz

/-! ### Memory that only grows -/

theorem Ext.grow (hs : w.heap.size ≤ w'.heap.size) (hb : ∀ b, b < w.heap.size → w'.heap[b]? = w.heap[b]?) (h1 : w'.os = w.os) (h2 : w'.tape = w.tape) (h3 : w'.output = w.output) : Ext U h loc w h loc w' :=
  ⟨h1, h2, h3, ⟨hs, fun b hlt hm => ⟨hm, hb b hlt⟩⟩, fun _ _ _ => rfl, fun id o ho => ⟨o, ho, Turns.refl _ _ _⟩, fun b hlt _ => hb b hlt⟩

theorem HW.grow (hw : HW G U h loc w) (hs : w.heap.size ≤ w'.heap.size) (hb : ∀ b, b < w.heap.size → w'.heap[b]? = w.heap[b]?) (h1 : w'.os = w.os) (h2 : w'.tape = w.tape) (h3 : w'.output = w.output) : HW G U h loc w' :=
  hw.step (Ext.grow hs hb h1 h2 h3) (fun id o ho => .inl ⟨ho, fun _ => rfl, fun b c hl hlo => hb b (hw.sep id o b c ho hl hlo).2⟩) hw.inj
    (fun id o b c ho hl hlo => ⟨(hw.sep id o b c ho hl hlo).1, Nat.lt_of_lt_of_le (hw.sep id o b c ho hl hlo).2 hs⟩)

theorem noRefs_ok {args : List V} (hn : noRefs args = true) : refsVs args = [] := by
  unfold noRefs at hn
  split at hn
  · assumption
  · cases hn

theorem outHp_nil {ns : List Obj} : outHp [] ns = hpOf (.ret 0) 0 ns := by
  funext i
  simp [outHp, hpOf]

theorem HW.empty {U : Nat → Prop} {loc : Loc} {w : World} (hl : ∀ b, U b → b < w.heap.size) (hg : G.In U (hpOf .arg 0 []) loc w) : HW G U (hpOf .arg 0 []) loc w :=
  ⟨fun id o ho => by simp [hpOf] at ho, fun id id' o o' b c c' ho => by simp [hpOf] at ho, fun id o b c ho => by simp [hpOf] at ho, hl, hg⟩

/-- A callee that is handed no memory. -/
theorem pcall_ok {T : CallSem} (hT : TOK G P T) (hw : HW G U h loc w) {f : FuncId} {us : List Value} {args : List V} {sh : Sh} {v : V} (hargs : VWs w (Mut U h loc) h loc us args) (hc : pcall T h f args sh = some v) :
    (∃ fn c, P.funcs[f]? = some fn ∧ fn.body = some c ∧ (fn.name == "runtime.NumGoroutine") = false) ∧ Calls P f us.toArray w fun e w' => ∃ u, e = .returned u ∧ PostV G U h loc w h v u w' loc := by
  unfold pcall at hc
  rw [Option.bind_eq_some_iff] at hc
  obtain ⟨as, has, hc⟩ := hc
  rw [Option.bind_eq_some_iff] at hc
  obtain ⟨v1, hv1, hc⟩ := hc
  rw [Option.bind_eq_some_iff] at hc
  obtain ⟨v2, hv2, hc⟩ := hc
  unfold pres at hv1
  rw [Option.bind_eq_some_iff] at hv1
  obtain ⟨r, hr, hv1⟩ := hv1
  have hf := hT _ _ _ _ hr
  refine ⟨hf.fn, ?_⟩
  have hos : r.2.1 = [] := List.eq_nil_of_length_eq_zero (by simpa using hf.len)
  have core : ∀ M' : Nat → Prop, (∀ b, U b → M' b) → (∀ b, M' b → Mut U h loc b) → (∀ b, Mut U h loc b → M' b ∨ ∃ id ∈ refsVs args, ∃ o c, h id = some o ∧ o.live = true ∧ loc id = some (b, c)) →
      (∀ id ∈ refsVs args, ∀ o b k, h id = some o → o.live = true → loc id = some (b, k) → ¬ M' b) →
      Calls P f us.toArray w fun e w' => ∃ u, e = .returned u ∧ VW w' M' h loc u v2 ∧ HW G U h loc w' ∧ Ext U h loc w h loc w' := by
    intro M' hMU hM hM2 hrr
    have hmm0 : ∀ (M' : Nat → Prop) b, Mut M' (hpOf .arg 0 []) loc b → M' b := fun M' b hb => hb.elim (fun h => h) (fun ⟨id, o, c, ho, _⟩ => by simp [hpOf] at ho)
    have hE : HW G M' (hpOf .arg 0 []) loc w := HW.empty (fun b hb => hw.mutLow (hM b hb)) ⟨hw.gl.1, fun b hb => ⟨(hw.gl.2 b hb).1, (hw.gl.2 b hb).2.elim (fun h => .inl (hMU b h)) (fun h => .inr fun hm => h (hM b (hmm0 M' b hm)))⟩⟩
    have hmm : ∀ b, Mut M' (hpOf .arg 0 []) loc b ↔ M' b := fun b => ⟨fun hb => hb.elim (fun h => h) (fun ⟨id, o, c, ho, _⟩ => by simp [hpOf] at ho), fun hb => .inl hb⟩
    have hargs2 : VWs w (Mut M' (hpOf .arg 0 []) loc) (hpOf .arg 0 []) loc us as := by
      refine snapVs_ok (M' := Mut M' (hpOf .arg 0 []) loc) hw (fun b hb => hM b ((hmm b).1 hb)) (fun id hid o b k ho hl hlo hb => hrr id hid o b k ho hl hlo ((hmm b).1 hb)) has hargs
    refine (hf.calls M' loc w us hE hargs2).mono fun e w' => ?_
    rintro ⟨u, loc', rfl, hw', hex, hv⟩
    rw [hos, outHp_nil] at hw' hex hv
    have hv' : VW w' M' h loc u v1 := frzBack_ok hw' hv1 hv
    have hall : ∀ b, b < w.heap.size → w'.heap[b]? = w.heap[b]? := fun b hb => by
      by_cases hm : M' b
      · exact hex.old b hb hm
      · exact (hex.keeps.same b hb (fun h => hm ((hmm b).1 h))).2
    exact ⟨u, rfl, cast_ok sh hv' hv2, hw.grow hex.keeps.size hall hex.os hex.tape hex.output, Ext.grow hex.keeps.size hall hex.os hex.tape hex.output⟩
  cases hn : noRefs args with
  | true =>
    have hne := noRefs_ok hn
    rw [hn] at hc
    simp at hc
    subst hc
    refine (core (Mut U h loc) (fun b hb => .inl hb) (fun b hb => hb) (fun b hb => .inl hb) (fun id hid => by rw [hne] at hid; simp at hid)).mono fun e w' => ?_
    rintro ⟨u, rfl, hv, hw', hex⟩
    exact ⟨u, rfl, hw', hex, hv⟩
  | false =>
    cases hfl : flatV v2 with
    | false => rw [hn, hfl] at hc; simp at hc
    | true =>
      rw [hn, hfl] at hc
      simp at hc
      subst hc
      refine (core (fun b => Mut U h loc b ∧ ¬ ∃ id ∈ refsVs args, ∃ o c, h id = some o ∧ o.live = true ∧ loc id = some (b, c)) (fun b hb => ⟨.inl hb, fun ⟨id, _, o, c, ho, hl, hlo⟩ => (hw.sep id o b c ho hl hlo).1 hb⟩) (fun b hb => hb.1) (fun b hb => ?_) (fun id hid o b k ho hl hlo hb => hb.2 ⟨id, hid, o, k, ho, hl, hlo⟩)).mono fun e w' => ?_
      · by_cases hx : ∃ id ∈ refsVs args, ∃ o c, h id = some o ∧ o.live = true ∧ loc id = some (b, c)
        · exact .inr hx
        · exact .inl ⟨hb, hx⟩
      · rintro ⟨u, rfl, hv, hw', hex⟩
        exact ⟨u, rfl, hw', hex, flatV_ok hfl hv⟩

end
end Go.Vm
