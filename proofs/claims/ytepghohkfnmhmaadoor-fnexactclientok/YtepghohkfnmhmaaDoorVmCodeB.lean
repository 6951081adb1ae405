/-
  Code, functions.
-/
import Derived.Test.YtepghohkfnmhmaaDoorVmCodeA
namespace Go.Vm
variable {G : Gl}
set_option linter.unusedVariables false
set_option linter.unusedSimpArgs false

section
variable {P : Program} {cfg : Cfg} {T Ti : CallSem} {me nt na : Nat} {U : Nat → Prop} {loc0 : Loc} {w0 : World} {fr fr' : Fr} {h h' : Hp} {loc loc' : Loc} {a : Act} {w : World} {objs : List Obj}

theorem castBox_ok {M : Nat → Prop} {cs : List C} {us : List Value} (hc : CWs w M h loc us cs) : ∀ {l : List Sh} {j : Nat} {r : List C}, castBox cs j l = some r → cs.length = j + l.length → CWs w M h loc (us.drop j) r
  | [], j, r, hr, hl => by
    simp [castBox] at hr; subst hr
    have : us.drop j = [] := by
      apply List.eq_nil_of_length_eq_zero
      have := hc.length
      simp at hl ⊢
      omega
    rw [this]
    unfold CWs; trivial
  | s :: l, j, r, hr, hl => by
    simp only [castBox, Option.bind_eq_some_iff, Option.some.injEq] at hr
    obtain ⟨c, hcj, v, hv, c', hc', l', hl', rfl⟩ := hr
    obtain ⟨u, hu, hcw⟩ := hc.get hcj
    have hd : us.drop j = u :: us.drop (j + 1) := by
      obtain ⟨h1, h2⟩ := List.getElem?_eq_some_iff.1 hu
      rw [List.drop_eq_getElem_cons h1, h2]
    rw [hd]
    unfold CWs
    refine ⟨?_, castBox_ok hc hl' (by simp at hl; omega)⟩
    have h1 : VW w M h loc u v := cast_ok s (v := .c c) (by unfold VW; exact hcw) hv
    rw [unC_ok hc'] at h1
    unfold VW at h1
    exact h1

theorem castObj_ok {M : Nat → Prop} {id : Id} {o x : Obj} {s : OSh} (hk : castObj o s = some x) : Weak w M h loc id o x := by
  cases s with
  | box l =>
    simp only [castObj, Option.bind_eq_some_iff] at hk
    obtain ⟨cs, h1, r, h2, hk⟩ := hk
    obtain rfl := asBox_ok h1
    cases hb : Nat.beq cs.length l.length with
    | false => rw [hb] at hk; simp at hk
    | true =>
      rw [hb] at hk
      simp at hk; subst hk
      refine ⟨by simp [Same], fun ⟨b, c, us, T, q1, q2, q3⟩ => ⟨b, c, us, T, q1, q2, ?_⟩⟩
      have := castBox_ok q3 h2 (by have := Nat.eq_of_beq_eq_true hb; omega)
      simpa using this
  | row wr k =>
    simp only [castObj, Option.bind_eq_some_iff, Option.some.injEq] at hk
    obtain ⟨l', h1, rfl⟩ := hk
    obtain rfl := asRow_ok h1
    exact ⟨by simp [Same], fun h => h⟩

theorem castObjs_ok : ∀ {l : List (Id × OSh)} {r : List (Id × Obj)}, castObjs h l = some r → r.map (·.1) = l.map (·.1) ∧ ∀ b x, (b, x) ∈ r → ∃ o s, h b = some o ∧ castObj o s = some x
  | [], r, hr => by simp [castObjs] at hr; subst hr; exact ⟨rfl, fun b x hx => by cases hx⟩
  | p :: l, r, hr => by
    simp only [castObjs, Option.bind_eq_some_iff, Option.some.injEq] at hr
    obtain ⟨o, ho, x, hx, l', hl', rfl⟩ := hr
    obtain ⟨h1, h2⟩ := castObjs_ok hl'
    refine ⟨by simp [h1], fun b y hy => ?_⟩
    rcases List.mem_cons.1 hy with hy | hy
    · simp only [Prod.mk.injEq] at hy
      obtain ⟨rfl, rfl⟩ := hy
      exact ⟨o, p.2, ho, hx⟩
    · exact h2 b y hy

theorem castSlots_ok : ∀ {l : List (Nat × Sh)} {r : List (Nat × V)}, castSlots fr l = some r → ∀ t v, (t, v) ∈ r → ∃ s, cast (fr t) s = some v
  | [], r, hr => by simp [castSlots] at hr; subst hr; exact fun t v h => by cases h
  | p :: l, r, hr => by
    simp only [castSlots, Option.bind_eq_some_iff, Option.some.injEq] at hr
    obtain ⟨x, hx, l', hl', rfl⟩ := hr
    intro t v hm
    rcases List.mem_cons.1 hm with hm | hm
    · simp only [Prod.mk.injEq] at hm
      obtain ⟨rfl, rfl⟩ := hm
      exact ⟨p.2, hx⟩
    · exact castSlots_ok hl' t v hm

theorem look_idMap : ∀ {l : List (Id × OSh)} {a b : Id}, look (idMap l) a = some b ↔ a = b ∧ b ∈ l.map (·.1)
  | [], a, b => by simp [idMap, look]
  | p :: l, a, b => by
    simp only [idMap, List.map_cons, look, List.mem_cons]
    cases hb : Id.beq p.1 a with
    | true =>
      have := Id.beq_true.1 hb
      simp only [cond_true, Option.some.injEq]
      constructor
      · rintro rfl; exact ⟨this.symm, .inl rfl⟩
      · rintro ⟨rfl, _⟩; exact this
    | false =>
      simp only [cond_false]
      have ih := look_idMap (l := l) (a := a) (b := b)
      unfold idMap at ih
      rw [ih]
      constructor
      · rintro ⟨h1, h2⟩; exact ⟨h1, .inr h2⟩
      · rintro ⟨rfl, h2 | h2⟩
        · rw [h2, Id.beq_self] at hb; cases hb
        · exact ⟨rfl, h2⟩

theorem castSt_ok {s' : St} {sh : List (Nat × Sh)} {osh : List (Id × OSh)} (hr : Rp G U (hpOf .arg 0 objs) loc0 w0 nt fr h a w) (hc : castSt objs.length ⟨fr, h⟩ sh osh = some s') : Rp G U (hpOf .arg 0 objs) loc0 w0 nt s'.fr s'.h a w := by
  obtain ⟨loc, hw, hf, hex, hn, hd⟩ := hr
  simp only [castSt, Option.bind_eq_some_iff] at hc
  obtain ⟨sl, hsl, ob, hob, hc⟩ := hc
  cases hcond : distinct (osh.map (·.1)) && allIn (osh.map (·.1)) ((List.range objs.length).map Id.arg) with
  | false => rw [hcond] at hc; simp at hc
  | true =>
    rw [hcond] at hc
    simp only [cond_true, Option.some.injEq] at hc
    subst hc
    simp only [Bool.and_eq_true] at hcond
    have d1 := distinct_nodup.1 hcond.1
    obtain ⟨hnm, hobs⟩ := castObjs_ok hob
    generalize hm : idMap osh = m
    have hnames : ((ob.map fun p => (p.1, renO m p.2)).map (·.1)).Nodup := by
      rw [List.map_map]
      have : (Prod.fst ∘ fun p : Id × Obj => (p.1, renO m p.2)) = Prod.fst := by funext p; rfl
      rw [this, hnm]
      exact d1
    generalize hh' : hpIds (ob.map fun p => (p.1, renO m p.2)) = h'
    have hin : ∀ {b : Id} {o : Obj}, h' b = some o ↔ ∃ x, (b, x) ∈ ob ∧ o = renO m x := by
      intro b o
      rw [← hh']
      constructor
      · intro h1
        obtain ⟨⟨b', x⟩, h2, h3⟩ := List.mem_map.1 (hpIds_mem h1)
        simp only [Prod.mk.injEq] at h3
        obtain ⟨rfl, rfl⟩ := h3
        exact ⟨x, h2, rfl⟩
      · rintro ⟨x, h2, rfl⟩
        exact hpIds_of_mem hnames (List.mem_map.2 ⟨(b, x), h2, rfl⟩)
    have hhas : ∀ {b : Id}, b ∈ osh.map (·.1) → ∃ x, (b, x) ∈ ob := by
      intro b hb
      rw [← hnm] at hb
      obtain ⟨⟨b', x⟩, h2, rfl⟩ := List.mem_map.1 hb
      exact ⟨x, h2⟩
    have hren : Ren m h loc h' loc := by
      refine ⟨fun x b o hl ho => ?_⟩
      rw [← hm] at hl
      obtain ⟨rfl, hb⟩ := look_idMap.1 hl
      obtain ⟨y, hy⟩ := hhas hb
      obtain ⟨o2, s, ho2, hs⟩ := hobs _ _ hy
      rw [ho] at ho2
      obtain rfl := Option.some.inj ho2
      exact ⟨_, hin.2 ⟨y, hy, rfl⟩, (castObj_ok (w := w) (M := Mut U h loc) (h := h) (loc := loc) (id := x) hs).1.trans (renO_same y), rfl⟩
    have hsrc : Src' m h loc h' loc := by
      intro b o' blk c hb hlv hlo
      obtain ⟨y, hy, rfl⟩ := hin.1 hb
      obtain ⟨o2, s, ho2, hs⟩ := hobs _ _ hy
      have hw1 := (castObj_ok (w := w) (M := Mut U h loc) (h := h) (loc := loc) (id := b) hs).1
      refine ⟨b, o2, ?_, ho2, ?_, hlo⟩
      · rw [← hm]
        exact look_idMap.2 ⟨rfl, by rw [← hnm]; exact List.mem_map.2 ⟨_, hy, rfl⟩⟩
      · rw [← (hw1.trans (renO_same y)).live]; exact hlv
    have hM : ∀ b, Mut U h' loc b → Mut U h loc b := Mut.ren (fun b hb => .inl hb) hsrc
    refine ⟨loc, hw.ren (fun b hb => hb) (fun b hb => .inl hb) hsrc (fun x b o blk c hl ho hlv hlo => (hw.sep x o blk c ho hlv hlo).1) ?_, ?_, ?_, hn, hd⟩
    · intro b o' hb
      obtain ⟨y, hy, rfl⟩ := hin.1 hb
      obtain ⟨o2, s, ho2, hs⟩ := hobs _ _ hy
      exact OW.ren hren hM rfl ((castObj_ok hs).2 (hw.obj b o2 ho2))
    · intro t
      show VW w (Mut U h' loc) h' loc (a.tmps.getD t undef) (frOf (sl.map fun p => (p.1, renV m p.2)) t)
      rcases frOf_mem (l := sl.map fun p => (p.1, renV m p.2)) (t := t) with h1 | h1
      · obtain ⟨⟨t', v⟩, h2, h3⟩ := List.mem_map.1 h1
        simp only [Prod.mk.injEq] at h3
        obtain ⟨rfl, h3⟩ := h3
        rw [← h3]
        obtain ⟨s, hs⟩ := castSlots_ok hsl _ _ h2
        exact VW.ren hren hM v (cast_ok s (hf t') hs)
      · rw [h1]; unfold VW CW; trivial
    · refine hex.turnTo hM fun j hj => ⟨rfl, fun o ho => ?_⟩
      obtain ⟨y, hy⟩ := hhas (allIn_args hcond.2 hj)
      obtain ⟨o2, s, ho2, hs⟩ := hobs _ _ hy
      rw [ho] at ho2
      obtain rfl := Option.some.inj ho2
      exact ⟨_, hin.2 ⟨y, hy, rfl⟩, (castObj_ok (w := w) (M := Mut U h loc) (h := h) (loc := loc) (id := .arg j) hs).1.trans (renO_same y)⟩

/-! ### Code -/

def exOf : Ex → Exit
  | .nrm => .normal
  | .ext id => .exit id
  | .ret => .ret

theorem aexec_wp (hm : P.follows .mixedOrders = true) (ht : TabOK P cfg) (hT : TOK G P T) (hTi : TOK G P Ti) {n : Nat} : ∀ (c : Code) {Q : Exit → Act → World → Prop} {s : St} {r : Ex × St} {a : Act} {w : World},
    Rp G U (hpOf .arg 0 objs) loc0 w0 nt s.fr s.h a w → aexec cfg T Ti me nt objs.length n c s = some r → (∀ a' w', Rp G U (hpOf .arg 0 objs) loc0 w0 nt r.2.fr r.2.h a' w' → Q (exOf r.1) a' w') → c.wp P Q a w
  | .skip, Q, s, r, a, w, hr, hs, hQ => by
    simp only [aexec, Option.some.injEq] at hs
    subst hs
    exact wp_skip (hQ a w hr)
  | .region id ops draw, Q, s, r, a, w, hr, hs, hQ => by
    simp only [aexec, Option.map_eq_some_iff] at hs
    obtain ⟨s1, h1, rfl⟩ := hs
    exact region_wp hm ht hT hTi hr h1 hQ
  | .seq x y, Q, s, r, a, w, hr, hs, hQ => by
    simp only [aexec, Option.bind_eq_some_iff] at hs
    obtain ⟨⟨e, s1⟩, h1, hs⟩ := hs
    refine wp_seq (aexec_wp hm ht hT hTi x hr h1 fun a' w' hr' => ?_)
    cases e with
    | nrm =>
      simp only [isN, cond_true] at hs
      exact aexec_wp hm ht hT hTi y hr' hs hQ
    | ext id => simp only [isN, cond_false, Option.some.injEq] at hs; subst hs; exact hQ a' w' hr'
    | ret => simp only [isN, cond_false, Option.some.injEq] at hs; subst hs; exact hQ a' w' hr'
  | .cond c x y, Q, s, r, a, w, hr, hs, hQ => by
    simp only [aexec, Option.bind_eq_some_iff] at hs
    obtain ⟨v, hv, t, hb, hs⟩ := hs
    have hc : a.eval c = .bool t := by
      obtain ⟨loc, hw, hf, _⟩ := hr
      exact (asB_ok (ev_ok hf hv) hb).1
    refine wp_cond hc ?_
    cases t with
    | true => exact aexec_wp hm ht hT hTi x hr hs hQ
    | false => exact aexec_wp hm ht hT hTi y hr hs hQ
  | .block id b, Q, s, r, a, w, hr, hs, hQ => by
    simp only [aexec, Option.map_eq_some_iff] at hs
    obtain ⟨⟨e, s1⟩, h1, rfl⟩ := hs
    refine wp_block (aexec_wp hm ht hT hTi b hr h1 fun a' w' hr' => ?_)
    have := hQ a' w' hr'
    cases e with
    | nrm => exact this
    | ret => exact this
    | ext j =>
      simp only [exOf, Exit.inBlock]
      simp only [leave] at this
      cases hb : Nat.beq j id with
      | true =>
        rw [hb] at this
        rw [if_pos (Nat.eq_of_beq_eq_true hb)]
        exact this
      | false =>
        rw [hb] at this
        have hne : j ≠ id := by rintro rfl; rw [Nat.beq_refl] at hb; cases hb
        rw [if_neg hne]
        exact this
  | .loop b, Q, s, r, a, w, hr, hs, hQ => by
    simp only [aexec, Option.bind_eq_some_iff, Option.some.injEq] at hs
    obtain ⟨s1, h1, ⟨e, s2⟩, h2, s3, h3, rfl⟩ := hs
    have rounds : ∀ (q : Nat) (s : St) (a : Act) (w : World), Rp G U (hpOf .arg 0 objs) loc0 w0 nt s.fr s.h a w →
        loopA objs.length (aexec cfg T Ti me nt objs.length n b) (cfg.lh me (firstRegion b)).head (cfg.lh me (firstRegion b)).out q s = some (e, s2) → Code.rounds P b Q q a w := by
      intro q
      induction q with
      | zero => intro s a w hr hl; simp [loopA] at hl
      | succ q ih =>
        intro s a w hr hl
        simp only [loopA, Option.bind_eq_some_iff] at hl
        obtain ⟨⟨e1, s4⟩, h4, hl⟩ := hl
        rw [rounds_succ]
        refine aexec_wp hm ht hT hTi b hr h4 fun a' w' hr' => ?_
        have out : ∀ (x : Ex), (clean objs.length (cfg.lh me (firstRegion b)).out s4).bind (fun s' => some (x, s')) = some (e, s2) → Q (exOf x) a' w' := by
          intro x hx
          simp only [Option.bind_eq_some_iff, Option.some.injEq, Prod.mk.injEq] at hx
          obtain ⟨s5, h5, rfl, rfl⟩ := hx
          exact hQ a' w' (castSt_ok (clean_ok hr' h5) h3)
        cases e1 with
        | nrm =>
          simp only [Option.bind_eq_some_iff] at hl
          obtain ⟨s5, h5, hl⟩ := hl
          exact ih s5 a' w' (clean_ok hr' h5) hl
        | ext id => exact out _ hl
        | ret => exact out _ hl
    exact wp_loop_rounds n (rounds n s1 a w (clean_ok hr h1) h2)
  | .exit id, Q, s, r, a, w, hr, hs, hQ => by
    simp only [aexec, Option.some.injEq] at hs
    subst hs
    exact wp_exit (hQ a w hr)
  | .ret, Q, s, r, a, w, hr, hs, hQ => by
    simp only [aexec, Option.some.injEq] at hs
    subst hs
    exact wp_ret (hQ a w hr)
  | .goto l, Q, s, r, a, w, hr, hs, hQ => by simp [aexec] at hs
  | .label l, Q, s, r, a, w, hr, hs, hQ => by simp [aexec] at hs

/-! ### Functions -/

theorem frArgs_get : ∀ {args : List V} {t : Nat} {v : V}, args[t]? = some v → frArgs args t = v
  | [], t, v, h => by simp at h
  | x :: args, 0, v, h => by simp at h; subst h; rfl
  | x :: args, t + 1, v, h => by simp at h; simp only [frArgs]; exact frArgs_get h

theorem frArgs_none : ∀ {args : List V} {t : Nat}, args.length ≤ t → frArgs args t = .c .und
  | [], t, h => rfl
  | x :: args, 0, h => by simp at h
  | x :: args, t + 1, h => by simp at h; simp only [frArgs]; exact frArgs_none h

theorem start_fr {M : Nat → Prop} {vs : List Value} {args : List V} {nt : Nat} (hv : VWs w M h loc vs args) (hn : args.length ≤ nt) :
    FrW w M h loc { tmps := vs.toArray ++ Array.replicate (nt - vs.toArray.size) undef, defers := [] } (frArgs args) := by
  intro t
  have hl := hv.len
  rw [Array.getD_eq_getD_getElem?]
  rcases Nat.lt_or_ge t args.length with ht | ht
  · obtain ⟨u, hu, hr⟩ := hv.get (List.getElem?_eq_getElem ht)
    rw [Array.getElem?_append_left (by simp; omega), frArgs_get (List.getElem?_eq_getElem ht)]
    have : vs.toArray[t]? = some u := by simpa using hu
    rw [this]
    exact hr
  · rw [frArgs_none ht, Array.getElem?_append_right (by simp; omega)]
    have : ((Array.replicate (nt - vs.toArray.size) undef)[t - vs.toArray.size]?).getD undef = undef := by
      rw [Array.getElem?_replicate]
      split <;> rfl
    rw [this]
    unfold VW CW
    rfl

theorem loadVar_of {T : TypeId} {p u : Value} (hl : (Instr.loadAt T p).run P w = .ok u w) : (do loadVar T (← asAddr p) : Sem Value).run P w = .ok u w := by
  unfold Instr.loadAt at hl
  cases p with
  | pointer ad =>
    cases ad with
    | none => simp [Instr.sureAddr, runtimePanic] at hl
    | some ad => simpa [Instr.sureAddr, asAddr] using hl
  | _ => simp [Instr.sureAddr] at hl

theorem resV_ok (ht : TabOK P cfg) (hw : HW G U h loc w) (hf : FrW w (Mut U h loc) h loc a fr) {r : ResultVar} {v : V} (hr : resV cfg ⟨fr, h⟩ r = some v) :
    ∃ u, (match r with | .tmp t => pure (a.tmps.getD t undef) | .cell x t => do loadVar t (← asAddr (a.tmps.getD x undef)) : Sem Value).run P w = .ok u w ∧ VW w (Mut U h loc) h loc u v := by
  cases r with
  | tmp t =>
    simp only [resV, Option.some.injEq] at hr
    subst hr
    exact ⟨_, rfl, hf t⟩
  | cell t T =>
    simp only [resV] at hr
    obtain ⟨u, h1, h2⟩ := ld_ok ht hw (hf t) hr
    exact ⟨u, loadVar_of h1, h2⟩

theorem resVs_ok (ht : TabOK P cfg) (hw : HW G U h loc w) (hf : FrW w (Mut U h loc) h loc a fr) : ∀ {rs : List ResultVar} {vs : List V}, resVs cfg ⟨fr, h⟩ rs = some vs →
    ∃ us : List Value, (rs.mapM fun r => match r with | .tmp t => pure (a.tmps.getD t undef) | .cell x t => do loadVar t (← asAddr (a.tmps.getD x undef)) : Sem (List Value)).run P w = .ok us w ∧ VWs w (Mut U h loc) h loc us vs
  | [], vs, hr => by simp [resVs] at hr; subst hr; exact ⟨[], rfl, by unfold VWs; trivial⟩
  | r :: rs, vs, hr => by
    simp only [resVs, Option.bind_eq_some_iff, Option.some.injEq] at hr
    obtain ⟨v, hv, vs', hvs, rfl⟩ := hr
    obtain ⟨u, h1, h2⟩ := resV_ok ht hw hf hv
    obtain ⟨us, h3, h4⟩ := resVs_ok ht hw hf hvs
    refine ⟨u :: us, ?_, by unfold VWs; exact ⟨h2, h4⟩⟩
    rw [List.mapM_cons, Sem.run_bind, h1, Result.andThen_ok, Sem.run_bind, h3]
    rfl

theorem results_ok (ht : TabOK P cfg) (hw : HW G U h loc w) (hf : FrW w (Mut U h loc) h loc a fr) {fn : Func} {vs : List V} (hr : resVs cfg ⟨fr, h⟩ fn.results.toList = some vs) :
    ∃ u, (results fn a.tmps).run P w = .ok u w ∧ VW w (Mut U h loc) h loc u (packV vs) := by
  obtain ⟨us, h1, h2⟩ := resVs_ok ht hw hf hr
  have hrun : ∀ f : ResultVar → Sem Value, (fn.results.mapM f).run P w = ((fn.results.toList.mapM f).run P w).andThen fun l w' => .ok l.toArray w' := by
    intro f
    rw [Array.mapM_eq_mapM_toList]
    simp [Sem.run_map]
  refine ⟨if hh : us.toArray.size = 1 then us.toArray[0] else .tuple us.toArray, ?_, ?_⟩
  · unfold results
    rw [Sem.run_bind, hrun]
    erw [h1]
    rfl
  · match vs, us, h2 with
    | [], [], h2 => simp [packV]; unfold VW; exact ⟨[], rfl, h2⟩
    | [v], [u], h2 => simp [packV]; unfold VWs at h2; exact h2.1
    | v1 :: v2 :: vs, u1 :: u2 :: us, h2 =>
      simp [packV]
      unfold VW
      exact ⟨_, rfl, h2⟩
    | [], _ :: _, h2 => unfold VWs at h2; exact h2.elim
    | _ :: _, [], h2 => unfold VWs at h2; exact h2.elim
    | [_], _ :: _ :: _, h2 => unfold VWs VWs at h2; exact h2.2.elim
    | _ :: _ :: _, [_], h2 => unfold VWs VWs at h2; exact h2.2.elim

end
end Go.Vm
