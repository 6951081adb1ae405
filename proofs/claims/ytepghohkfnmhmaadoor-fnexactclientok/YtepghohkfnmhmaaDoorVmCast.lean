/-
  What a value is taken for: it stands for no more than it did.
-/
import Derived.Test.YtepghohkfnmhmaaDoorVmRen
import Derived.Test.YtepghohkfnmhmaaDoorVmOpsG
namespace Go.Vm
set_option linter.unusedVariables false
set_option linter.unusedSimpArgs false

section
variable {w : World} {M M' : Nat → Prop} {h h' : Hp} {loc loc' : Loc} {m : List (Id × Id)} {U U' : Nat → Prop}

/-- The same names, the same kinds of objects. -/
def Shape (h : Hp) (loc : Loc) (h' : Hp) (loc' : Loc) : Prop := ∀ i o, h i = some o → ∃ o', h' i = some o' ∧ Same o o' ∧ loc' i = loc i

theorem Shape.refl (h : Hp) (loc : Loc) : Shape h loc h loc := fun i o ho => ⟨o, ho, by cases o <;> simp [Same], rfl⟩

mutual
theorem CW.shape (r : Shape h loc h' loc') (hM : ∀ b, M' b → M b) : ∀ (c : C) {v : Value}, CW w M h loc v c → CW w M' h' loc' v c
  | .f x, v, hc => by
    unfold CW at hc ⊢
    obtain ⟨n, hn⟩ := hc
    exact ⟨n, hn.mono hM⟩
  | .bx id off, v, hc => by
    unfold CW at hc ⊢
    obtain ⟨⟨ds, ho⟩, b, c, hb, hv⟩ := hc
    obtain ⟨o', ho', hs, hlo⟩ := r _ _ ho
    cases o' with
    | box cs => exact ⟨⟨cs, ho'⟩, b, c, by rw [hlo]; exact hb, hv⟩
    | row => simp [Same] at hs
    | dead => simp [Same] at hs
  | .row id k, v, hc => by
    unfold CW at hc ⊢
    obtain ⟨hsh, h1, h2⟩ := hc
    obtain ⟨o, ho⟩ := Option.isSome_iff_exists.1 h1
    obtain ⟨o', ho', hs, hlo⟩ := r _ _ ho
    refine ⟨hsh, by rw [ho']; rfl, fun wr k' l hcs => ?_⟩
    rw [ho'] at hcs
    obtain rfl := Option.some.inj hcs
    cases o with
    | box ds => simp [Same] at hs
    | dead => simp [Same] at hs
    | row wr0 k0 l0 =>
      simp only [Same, Obj.row.injEq] at hs
      obtain ⟨rfl, rfl, hs⟩ := hs
      obtain rfl := eq_of_heq hs
      obtain ⟨rfl, h3, h4⟩ := h2 _ _ _ ho
      refine ⟨rfl, fun b c hb => h3 b c (by rw [← hlo]; exact hb), fun hb => ?_⟩
      obtain ⟨n, hn⟩ := h4 (by rw [← hlo]; exact hb)
      exact ⟨n, hn.mono hM⟩
  | .re id k i off, v, hc => by
    unfold CW at hc ⊢
    obtain ⟨h1, h2, b, c, hb, hv⟩ := hc
    obtain ⟨o, ho⟩ := Option.isSome_iff_exists.1 h1
    obtain ⟨o', ho', hs, hlo⟩ := r _ _ ho
    refine ⟨by rw [ho']; rfl, fun wr k' l hcs => ?_, b, c, by rw [hlo]; exact hb, hv⟩
    rw [ho'] at hcs
    obtain rfl := Option.some.inj hcs
    cases o with
    | box ds => simp [Same] at hs
    | dead => simp [Same] at hs
    | row wr0 k0 l0 =>
      simp only [Same, Obj.row.injEq] at hs
      obtain ⟨rfl, rfl, hs⟩ := hs
      exact h2 _ _ _ ho
  | .fn f caps, v, hc => by
    unfold CW at hc ⊢
    obtain ⟨us, hv, hs⟩ := hc
    exact ⟨us, hv, CWs.shape r hM caps hs⟩
  | .hole, v, hc => by unfold CW; trivial
  | .und, v, hc => by unfold CW at hc ⊢; exact hc
theorem CWs.shape (r : Shape h loc h' loc') (hM : ∀ b, M' b → M b) : ∀ (cs : List C) {vs : List Value}, CWs w M h loc vs cs → CWs w M' h' loc' vs cs
  | [], [], _ => by unfold CWs; trivial
  | [], _ :: _, hc => by unfold CWs at hc; exact hc.elim
  | c :: cs, [], hc => by unfold CWs at hc; exact hc.elim
  | c :: cs, v :: vs, hc => by unfold CWs at hc ⊢; exact ⟨CW.shape r hM c hc.1, CWs.shape r hM cs hc.2⟩
end

mutual
theorem VW.shape (r : Shape h loc h' loc') (hM : ∀ b, M' b → M b) : ∀ (c : V) {v : Value}, VW w M h loc v c → VW w M' h' loc' v c
  | .c x, v, hc => by unfold VW at hc ⊢; exact CW.shape r hM x hc
  | .agg cs, v, hc => by
    unfold VW at hc ⊢
    obtain ⟨us, hv, hs⟩ := hc
    exact ⟨us, hv, CWs.shape r hM cs hs⟩
  | .tup vs, v, hc => by
    unfold VW at hc ⊢
    obtain ⟨us, hv, hs⟩ := hc
    exact ⟨us, hv, VWs.shape r hM vs hs⟩
theorem VWs.shape (r : Shape h loc h' loc') (hM : ∀ b, M' b → M b) : ∀ (cs : List V) {vs : List Value}, VWs w M h loc vs cs → VWs w M' h' loc' vs cs
  | [], [], _ => by unfold VWs; trivial
  | [], _ :: _, hc => by unfold VWs at hc; exact hc.elim
  | c :: cs, [], hc => by unfold VWs at hc; exact hc.elim
  | c :: cs, v :: vs, hc => by unfold VWs at hc ⊢; exact ⟨VW.shape r hM c hc.1, VWs.shape r hM cs hc.2⟩
end

theorem VW.mono (hM : ∀ b, M' b → M b) {c : V} {v : Value} (hc : VW w M h loc v c) : VW w M' h loc v c := VW.shape (Shape.refl h loc) hM c hc

/-! ### Flat values -/

theorem flatC_ok {c : C} {v : Value} (hf : flatC c = true) (hc : CW w M h loc v c) : CW w M' h' loc' v c := by
  unfold flatC at hf
  split at hf
  · unfold CW at hc ⊢
    obtain ⟨n, hn⟩ := hc
    exact ⟨0, by cases n <;> exact hn⟩
  · cases hf

theorem flatCs_ok : ∀ {cs : List C} {vs : List Value}, cs.all flatC = true → CWs w M h loc vs cs → CWs w M' h' loc' vs cs
  | [], [], _, _ => by unfold CWs; trivial
  | [], _ :: _, _, hc => by unfold CWs at hc; exact hc.elim
  | c :: cs, [], _, hc => by unfold CWs at hc; exact hc.elim
  | c :: cs, v :: vs, hf, hc => by
    simp only [List.all_cons, Bool.and_eq_true] at hf
    unfold CWs at hc ⊢
    exact ⟨flatC_ok hf.1 hc.1, flatCs_ok hf.2 hc.2⟩

theorem flatVs_ok : ∀ {vs : List V} {us : List Value}, (vs.all fun | .c x => flatC x | .agg cs => cs.all flatC | .tup _ => false) = true → VWs w M h loc us vs → VWs w M' h' loc' us vs
  | [], [], _, _ => by unfold VWs; trivial
  | [], _ :: _, _, hc => by unfold VWs at hc; exact hc.elim
  | c :: cs, [], _, hc => by unfold VWs at hc; exact hc.elim
  | c :: cs, v :: vs, hf, hc => by
    simp only [List.all_cons, Bool.and_eq_true] at hf
    unfold VWs at hc ⊢
    refine ⟨?_, flatVs_ok hf.2 hc.2⟩
    have h1 := hc.1
    cases c with
    | c x => unfold VW at h1 ⊢; exact flatC_ok hf.1 h1
    | agg cs => unfold VW at h1 ⊢; obtain ⟨us, e, hs⟩ := h1; exact ⟨us, e, flatCs_ok hf.1 hs⟩
    | tup vs => simp at hf

theorem flatV_ok {v : V} {u : Value} (hf : flatV v = true) (hc : VW w M h loc u v) : VW w M' h' loc' u v := by
  cases v with
  | c x => unfold VW at hc ⊢; exact flatC_ok hf hc
  | agg cs => unfold VW at hc ⊢; obtain ⟨us, e, hs⟩ := hc; exact ⟨us, e, flatCs_ok hf hs⟩
  | tup vs => unfold VW at hc ⊢; obtain ⟨us, e, hs⟩ := hc; exact ⟨us, e, flatVs_ok hf hs⟩

/-! ### Casts -/

theorem asEl_ok {k : Kind} {v : V} {x : El k} (hx : asEl k v = some x) : ∃ fs, v = .agg (fs.map C.f) ∧ Wk fs (cellsOf k x) := by
  unfold asEl at hx
  split at hx
  · rw [Option.bind_eq_some_iff] at hx
    obtain ⟨fs, h1, h2⟩ := hx
    obtain rfl := lmapM_frz h1
    exact ⟨fs, rfl, ofCells_wk h2⟩
  · cases hx

theorem asCert_ok {v : V} {x : Cert} (hx : asCert v = some x) : ∃ fs, v = .agg (fs.map C.f) ∧ Wk fs (Cert.cells x) := by
  unfold asCert at hx
  split at hx
  · rename_i a b c d t l e
    simp only [Option.some.injEq] at hx
    subst hx
    exact ⟨[.str a, .int b, .int c, .str d, .sl t .term l, .int e], rfl, by simp [Wk, Cert.cells]⟩
  · cases hx

theorem asClient_ok {v : V} {x : Client} (hx : asClient v = some x) : ∃ fs, v = .agg (fs.map C.f) ∧ Wk fs (Client.cells x) := by
  unfold asClient at hx
  split at hx
  · rename_i st hh m e b to tn ts tg tk i o tl p
    simp only [Option.some.injEq] at hx
    subst hx
    exact ⟨[.int st, .str hh, .bool m, .int e, .int b, .int to, .int tn, .str ts, .sl tg .term tk, .int i, .int o, .bool tl, .bool p], rfl, by simp [Wk, Client.cells]⟩
  · cases hx

theorem asServer_ok {v : V} {x : Server} (hx : asServer v = some x) : ∃ fs, v = .agg (fs.map C.f) ∧ Wk fs (Server.cells x) := by
  unfold asServer at hx
  split at hx
  · rename_i st nm k e co cn cs cg ck so sn ss sg sk i o tl gg g
    simp only [Option.some.injEq] at hx
    subst hx
    exact ⟨[.int st, .str nm, .int k, .int e, .int co, .int cn, .str cs, .sl cg .term ck, .int so, .int sn, .str ss, .sl sg .term sk, .int i, .int o, .bool tl, .sl gg .int g], rfl, by simp [Wk, Server.cells]⟩
  · cases hx

theorem asWorld_ok {v : V} {x : WorldD} (hx : asWorld v = some x) : ∃ fs, v = .agg (fs.map C.f) ∧ Wk fs (WorldD.cells x) := by
  unfold asWorld at hx
  split at hx
  · rename_i t fr g1 kn g2 ca g3 ho g4 le bo su g5 cl g6 ta g7 to
    simp only [Option.some.injEq] at hx
    subst hx
    exact ⟨[.int t, .int fr, .sl g1 .term kn, .sl g2 .policy ca, .sl g3 .host ho, .sl g4 .letter le, .str bo, .int su, .sl g5 .call cl, .sl g6 .talk ta, .sl g7 .int to], rfl, by simp [Wk, WorldD.cells]⟩
  · cases hx

theorem VW.ofWk {u : Value} {fs : List F} {gs : List F} (hc : VW w M h loc u (.agg (fs.map C.f))) (hk : Wk fs gs) : VW w M h loc u (.agg (gs.map C.f)) := by
  unfold VW at hc ⊢
  obtain ⟨us, e, hs⟩ := hc
  exact ⟨us, e, hs.wk hk⟩

theorem CW.loose {v : Value} {t : Bool} {k : Kind} {l : List (El k)} (hc : CW w M h loc v (.f (.sl t k l))) : CW w M h loc v (.f (.sl false k l)) := by
  unfold CW at hc ⊢
  obtain ⟨n, hn⟩ := hc
  cases n with
  | zero => exact hn.elim
  | succ n => exact ⟨n + 1, hn.loose⟩

theorem fBool_ok {c : C} {b : Bool} (hb : fBool c = some b) : c = .f (.sc (.bool b)) := by
  unfold fBool at hb; split at hb
  · simp at hb; subst hb; rfl
  · cases hb
theorem fInt_ok {c : C} {b : Int} (hb : fInt c = some b) : c = .f (.sc (.int .i64 b)) := by
  unfold fInt at hb; split at hb
  · simp at hb; subst hb; rfl
  · cases hb
theorem fU8_ok {c : C} {b : Int} (hb : fU8 c = some b) : c = .f (.sc (.int .u8 b)) := by
  unfold fU8 at hb; split at hb
  · simp at hb; subst hb; rfl
  · cases hb
theorem fStr_ok {c : C} {b : ByteArray} (hb : fStr c = some b) : c = .f (.sc (.string b)) := by
  unfold fStr at hb; split at hb
  · simp at hb; subst hb; rfl
  · cases hb
theorem fSl_ok {k : Kind} {c : C} {l : List (El k)} (hb : fSl k c = some l) : ∃ t, c = .f (.sl t k l) := by
  unfold fSl at hb; split at hb
  · rename_i t k' l'
    by_cases hk : k' = k
    · subst hk; simp at hb; subst hb; exact ⟨t, rfl⟩
    · simp [hk] at hb
  · cases hb
theorem fBx_ok {id : Id} {off : Nat} {c : C} {u : Unit} (hb : fBx id off c = some u) : c = .bx id off := by
  unfold fBx at hb; split at hb
  · rename_i id' off'
    cases hc : Id.beq id' id && Nat.beq off' off with
    | false => rw [hc] at hb; simp at hb
    | true =>
      simp only [Bool.and_eq_true] at hc
      rw [Id.beq_true.1 hc.1, Nat.eq_of_beq_eq_true hc.2]
  · cases hb
theorem fRow_ok {id : Id} {k : Kind} {c : C} {u : Unit} (hb : fRow id k c = some u) : c = .row id k := by
  unfold fRow at hb; split at hb
  · rename_i id' k'
    cases hc : Id.beq id' id && decide (k' = k) with
    | false => rw [hc] at hb; simp at hb
    | true =>
      simp only [Bool.and_eq_true, decide_eq_true_eq] at hc
      rw [Id.beq_true.1 hc.1, hc.2]
  · cases hb

theorem unC_ok {v : V} {c : C} (hv : unC v = some c) : v = .c c := by
  unfold unC at hv; split at hv
  · simp at hv; subst hv; rfl
  · cases hv

mutual
theorem cast_ok : ∀ (s : Sh) {v v' : V} {u : Value}, VW w M h loc u v → cast v s = some v' → VW w M h loc u v'
  | .raw, v, v', u, hv, hc => by simp [cast] at hc; subst hc; exact hv
  | .bool, v, v', u, hv, hc => by
    simp only [cast, Option.bind_eq_some_iff, Option.some.injEq] at hc
    obtain ⟨b, ⟨c, h1, h2⟩, rfl⟩ := hc
    rw [unC_ok h1, fBool_ok h2] at hv; exact hv
  | .int, v, v', u, hv, hc => by
    simp only [cast, Option.bind_eq_some_iff, Option.some.injEq] at hc
    obtain ⟨b, ⟨c, h1, h2⟩, rfl⟩ := hc
    rw [unC_ok h1, fInt_ok h2] at hv; exact hv
  | .u8, v, v', u, hv, hc => by
    simp only [cast, Option.bind_eq_some_iff, Option.some.injEq] at hc
    obtain ⟨b, ⟨c, h1, h2⟩, rfl⟩ := hc
    rw [unC_ok h1, fU8_ok h2] at hv; exact hv
  | .str, v, v', u, hv, hc => by
    simp only [cast, Option.bind_eq_some_iff, Option.some.injEq] at hc
    obtain ⟨b, ⟨c, h1, h2⟩, rfl⟩ := hc
    rw [unC_ok h1, fStr_ok h2] at hv; exact hv
  | .sl k, v, v', u, hv, hc => by
    simp only [cast, Option.bind_eq_some_iff, Option.some.injEq] at hc
    obtain ⟨b, ⟨c, h1, h2⟩, rfl⟩ := hc
    obtain ⟨t, h2⟩ := fSl_ok h2
    rw [unC_ok h1, h2] at hv
    unfold VW at hv ⊢
    exact hv.loose
  | .el k, v, v', u, hv, hc => by
    simp only [cast, Option.bind_eq_some_iff, Option.some.injEq] at hc
    obtain ⟨x, h1, rfl⟩ := hc
    obtain ⟨fs, rfl, hk⟩ := asEl_ok h1
    exact hv.ofWk hk
  | .cert, v, v', u, hv, hc => by
    simp only [cast, Option.bind_eq_some_iff, Option.some.injEq] at hc
    obtain ⟨x, h1, rfl⟩ := hc
    obtain ⟨fs, rfl, hk⟩ := asCert_ok h1
    exact hv.ofWk hk
  | .client, v, v', u, hv, hc => by
    simp only [cast, Option.bind_eq_some_iff, Option.some.injEq] at hc
    obtain ⟨x, h1, rfl⟩ := hc
    obtain ⟨fs, rfl, hk⟩ := asClient_ok h1
    exact hv.ofWk hk
  | .server, v, v', u, hv, hc => by
    simp only [cast, Option.bind_eq_some_iff, Option.some.injEq] at hc
    obtain ⟨x, h1, rfl⟩ := hc
    obtain ⟨fs, rfl, hk⟩ := asServer_ok h1
    exact hv.ofWk hk
  | .world, v, v', u, hv, hc => by
    simp only [cast, Option.bind_eq_some_iff, Option.some.injEq] at hc
    obtain ⟨x, h1, rfl⟩ := hc
    obtain ⟨fs, rfl, hk⟩ := asWorld_ok h1
    exact hv.ofWk hk
  | .tup l, v, v', u, hv, hc => by
    simp only [cast, Option.bind_eq_some_iff, Option.some.injEq] at hc
    obtain ⟨_, h0, vs, h1, rfl⟩ := hc
    unfold fTup at h0
    split at h0
    · rename_i ws
      cases hb : Nat.beq ws.length l.length with
      | false => rw [hb] at h0; simp at h0
      | true =>
        unfold VW at hv ⊢
        obtain ⟨us, e, hs⟩ := hv
        exact ⟨us, e, casts_ok l 0 (by simpa using hs) (by have := Nat.eq_of_beq_eq_true hb; simp; omega) h1⟩
    · cases h0
  | .bx id off, v, v', u, hv, hc => by
    simp only [cast, Option.bind_eq_some_iff, Option.some.injEq] at hc
    obtain ⟨b, ⟨c, h1, h2⟩, rfl⟩ := hc
    rw [unC_ok h1, fBx_ok h2] at hv; exact hv
  | .row id k, v, v', u, hv, hc => by
    simp only [cast, Option.bind_eq_some_iff, Option.some.injEq] at hc
    obtain ⟨b, ⟨c, h1, h2⟩, rfl⟩ := hc
    rw [unC_ok h1, fRow_ok h2] at hv; exact hv
theorem casts_ok : ∀ (l : List Sh) (j : Nat) {ws : List V} {vs : List V} {us : List Value}, VWs w M h loc us (ws.drop j) → l.length = (ws.drop j).length → casts (.tup ws) j l = some vs → VWs w M h loc us vs
  | [], j, ws, vs, us, hv, hl, hc => by
    simp [casts] at hc
    subst hc
    have : ws.drop j = [] := List.eq_nil_of_length_eq_zero (by simpa using hl.symm)
    rw [this] at hv
    exact hv
  | s :: l, j, ws, vs, us, hv, hl, hc => by
    simp only [casts, Option.bind_eq_some_iff, Option.some.injEq] at hc
    obtain ⟨x, hx, y, hy, ys, hys, rfl⟩ := hc
    simp only [Go.Vm.part] at hx
    have hd : ws.drop j = x :: ws.drop (j + 1) := by
      have hlt := (List.getElem?_eq_some_iff.1 hx)
      obtain ⟨h1, h2⟩ := hlt
      rw [List.drop_eq_getElem_cons h1, h2]
    rw [hd] at hv hl
    match us, hv with
    | [], hv => unfold VWs at hv; exact hv.elim
    | u :: us, hv =>
      unfold VWs at hv ⊢
      exact ⟨cast_ok s hv.1 hy, casts_ok l (j + 1) hv.2 (by simpa using hl) hys⟩
end

end
end Go.Vm
