/-
  One operation.
-/
import Derived.Test.YtepghohkfnmhmaaDoorVmCallB
namespace Go.Vm
variable {G : Gl}
set_option linter.unusedVariables false
set_option linter.unusedSimpArgs false

section
variable {P : Program} {cfg : Cfg} {U : Nat → Prop} {h h' h2 : Hp} {loc loc' loc2 : Loc} {w w' : World} {a : Act} {fr : Fr} {M' : Nat → Prop}

theorem castC_ok {M : Nat → Prop} {o n c : C} {v : Value} (hc : CW w M h loc v n) (hk : castC o n = some c) : CW w M h loc v c := by
  unfold castC at hk
  split at hk
  · simp only [Option.bind_eq_some_iff, Option.some.injEq] at hk
    obtain ⟨b, h1, rfl⟩ := hk
    rw [fBool_ok h1] at hc; exact hc
  · simp only [Option.bind_eq_some_iff, Option.some.injEq] at hk
    obtain ⟨b, h1, rfl⟩ := hk
    rw [fInt_ok h1] at hc; exact hc
  · simp only [Option.bind_eq_some_iff, Option.some.injEq] at hk
    obtain ⟨b, h1, rfl⟩ := hk
    rw [fStr_ok h1] at hc; exact hc
  · simp only [Option.bind_eq_some_iff, Option.some.injEq] at hk
    obtain ⟨b, h1, rfl⟩ := hk
    obtain ⟨t, h2⟩ := fSl_ok h1
    rw [h2] at hc; exact hc.loose
  · simp at hk; subst hk; exact hc

theorem castCs_ok {M : Nat → Prop} : ∀ {os ns cs : List C} {us : List Value}, CWs w M h loc us ns → castCs os ns = some cs → ns.length = os.length → CWs w M h loc us cs
  | [], ns, cs, us, hc, hk, hl => by
    simp [castCs] at hk; subst hk
    have : ns = [] := List.eq_nil_of_length_eq_zero hl
    subst this; exact hc
  | o :: os, [], cs, us, hc, hk, hl => by simp at hl
  | o :: os, n :: ns, cs, [], hc, hk, hl => by unfold CWs at hc; exact hc.elim
  | o :: os, n :: ns, cs, u :: us, hc, hk, hl => by
    simp only [castCs, List.head?_cons, Option.bind_some, List.tail_cons, Option.bind_eq_some_iff, Option.some.injEq] at hk
    obtain ⟨x, h1, r, h2, rfl⟩ := hk
    unfold CWs at hc ⊢
    exact ⟨castC_ok hc.1 h1, castCs_ok hc.2 h2 (by simpa using hl)⟩

theorem asBox_ok {o : Obj} {cs : List C} (hb : asBox o = some cs) : o = .box cs := by
  unfold asBox at hb; split at hb
  · simp at hb; subst hb; rfl
  · cases hb

theorem asRow_ok {o : Obj} {wr : Bool} {k : Kind} {l : List (El k)} (hb : asRow wr k o = some l) : o = .row wr k l := by
  unfold asRow at hb; split at hb
  · rename_i wr' k' l'
    by_cases h1 : wr' = wr
    · by_cases h2 : k' = k
      · subst h1; subst h2; simp at hb; subst hb; rfl
      · simp [h1, h2] at hb
    · simp [h1] at hb
  · cases hb

/-- An object that is taken for what it was: no more, and of one kind. -/
def Weak (w : World) (M : Nat → Prop) (h : Hp) (loc : Loc) (id : Id) (n x : Obj) : Prop := Same n x ∧ (OW w M h loc id n → OW w M h loc id x)

theorem castO_ok {M : Nat → Prop} {id : Id} {o n x : Obj} (hk : castO o n = some x) : Weak w M h loc id n x := by
  unfold castO at hk
  split at hk
  · rename_i cs
    simp only [Option.bind_eq_some_iff] at hk
    obtain ⟨ns, h1, r, h2, hk⟩ := hk
    obtain rfl := asBox_ok h1
    cases hb : Nat.beq ns.length cs.length with
    | false => rw [hb] at hk; simp at hk
    | true =>
      rw [hb] at hk
      simp at hk; subst hk
      exact ⟨by simp [Same], fun ⟨b, c, us, T, q1, q2, q3⟩ => ⟨b, c, us, T, q1, q2, castCs_ok q3 h2 (Nat.eq_of_beq_eq_true hb)⟩⟩
  · rename_i wr k l
    simp only [Option.bind_eq_some_iff, Option.some.injEq] at hk
    obtain ⟨l', h1, rfl⟩ := hk
    obtain rfl := asRow_ok h1
    exact ⟨by simp [Same], fun h => h⟩
  · simp at hk; subst hk
    exact ⟨by cases n <;> simp [Same], fun h => h⟩

theorem castOs_ok : ∀ {os ns xs : List Obj}, castOs os ns = some xs → ns.length = os.length → xs.length = ns.length ∧ ∀ (j : Nat) (n : Obj), ns[j]? = some n → ∃ x, xs[j]? = some x ∧ ∃ o, castO o n = some x
  | [], ns, xs, hk, hl => by
    simp [castOs] at hk; subst hk
    have : ns = [] := List.eq_nil_of_length_eq_zero hl
    subst this
    exact ⟨rfl, fun j n hn => by simp at hn⟩
  | o :: os, [], xs, hk, hl => by simp at hl
  | o :: os, n :: ns, xs, hk, hl => by
    simp only [castOs, List.head?_cons, Option.bind_some, List.tail_cons, Option.bind_eq_some_iff, Option.some.injEq] at hk
    obtain ⟨x, h1, r, h2, rfl⟩ := hk
    obtain ⟨h3, h4⟩ := castOs_ok h2 (by simpa using hl)
    refine ⟨by simp [h3], fun j y hy => ?_⟩
    cases j with
    | zero => simp at hy; subst hy; exact ⟨x, rfl, o, h1⟩
    | succ j => simpa using h4 j y (by simpa using hy)

/-- Objects that are told less of. -/
theorem PostV.weak {h1 : Hp} {loc1 : Loc} {v : V} {u : Value} (hp : PostV G U h loc w h1 v u w' loc1) (hf : ∀ i o, h1 i = some o → ∃ o', h2 i = some o' ∧ Weak w' (Mut U h1 loc1) h1 loc1 i o o')
    (hb : ∀ i o', h2 i = some o' → ∃ o, h1 i = some o) : PostV G U h loc w h2 v u w' loc1 := by
  obtain ⟨hw, hex, hv⟩ := hp
  have hsh : Shape h1 loc1 h2 loc1 := fun i o ho => by obtain ⟨o', h3, h4, _⟩ := hf i o ho; exact ⟨o', h3, h4, rfl⟩
  have hbk : ∀ i o', h2 i = some o' → ∃ o, h1 i = some o ∧ Weak w' (Mut U h1 loc1) h1 loc1 i o o' := fun i o' ho' => by
    obtain ⟨o, ho⟩ := hb i o' ho'
    obtain ⟨o2, h3, h4⟩ := hf i o ho
    rw [ho'] at h3
    obtain rfl := Option.some.inj h3
    exact ⟨o, ho, h4⟩
  have hM : ∀ b, Mut U h2 loc1 b → Mut U h1 loc1 b := by
    rintro b (hu | ⟨i, o, c, ho, hl, hlo⟩)
    · exact .inl hu
    · obtain ⟨o2, h3, h4, _⟩ := hbk i o ho
      exact .inr ⟨i, o2, c, h3, by rw [← h4.live]; exact hl, hlo⟩
  refine ⟨⟨?_, ?_, ?_, hw.low, hw.gl.1, fun b hb => ⟨(hw.gl.2 b hb).1, (hw.gl.2 b hb).2.elim .inl (fun h => .inr fun hm => h (hM b hm))⟩⟩, ?_, VW.shape hsh hM v hv⟩
  · intro i o ho
    obtain ⟨o2, h3, h4, h5⟩ := hbk i o ho
    have := h5 (hw.obj i o2 h3)
    cases o with
    | box cs => obtain ⟨b, c, us, T, q1, q2, q3⟩ := this; exact ⟨b, c, us, T, q1, q2, CWs.shape hsh hM cs q3⟩
    | row wr k l => exact ⟨this.1, fun b c hl => by
        obtain ⟨us, T, q1, q2, q3, q4⟩ := this.2 b c hl
        exact ⟨us, T, q1, q2, q3, fun i x j f hx hf => by obtain ⟨u, n, r1, r2⟩ := q4 i x j f hx hf; exact ⟨u, n, r1, r2.mono hM⟩⟩⟩
    | dead => trivial
  · intro i1 i2 o1 o2 b c1 c2 ho1 l1 ho2 l2 e1 e2
    obtain ⟨p1, q1, r1, _⟩ := hbk i1 o1 ho1
    obtain ⟨p2, q2, r2, _⟩ := hbk i2 o2 ho2
    exact hw.inj i1 i2 p1 p2 b c1 c2 q1 (by rw [← r1.live]; exact l1) q2 (by rw [← r2.live]; exact l2) e1 e2
  · intro i o b c ho hl hlo
    obtain ⟨p1, q1, r1, _⟩ := hbk i o ho
    exact hw.sep i p1 b c q1 (by rw [← r1.live]; exact hl) hlo
  · refine ⟨hex.os, hex.tape, hex.output, ⟨hex.keeps.size, fun b hb hm => ?_⟩, hex.lc, ?_, hex.old⟩
    · have := hex.keeps.same b hb hm
      exact ⟨fun h => this.1 (hM b h), this.2⟩
    · intro i o ho
      obtain ⟨o1, ho1, ht⟩ := hex.ent i o ho
      obtain ⟨o2, ho2, hs, _⟩ := hf i o1 ho1
      refine ⟨o2, ho2, ?_⟩
      cases o1 with
      | box cs => cases o2 <;> simp [Same] at hs; cases o <;> exact ht
      | row wr k l => simp only [Same] at hs; rw [hs]; exact ht
      | dead => cases o2 <;> simp [Same] at hs; exact ht

theorem handBack_heap {d : Nat} {ids : List Id} {r v : V} {os ns : List Obj} {e : Eff} (hb : handBack h d ids r os ns = some (v, e)) : ∃ h', e = .heap h' := by
  unfold handBack at hb
  simp only at hb
  cases hf : fresh h ((List.range ns.length).map (Id.ret d)) with
  | false => rw [hf] at hb; simp at hb
  | true =>
    rw [hf] at hb
    simp only [cond_true, Option.bind_eq_some_iff, Option.some.injEq, Prod.mk.injEq] at hb
    obtain ⟨_, _, h2, _, _, rfl⟩ := hb
    exact ⟨h2, rfl⟩

theorem run_callFunc_go {f : FuncId} {fn : Func} {c : Code} (hf : P.funcs[f]? = some fn) (hname : (fn.name == "runtime.NumGoroutine") = false) (hb : fn.body = some c) (args : Array Value) (w : World) :
    (callFunc f args).run P w = .ok (.enter f args) w := by
  have h1 : fn.name ≠ "runtime.NumGoroutine" := by simpa using hname
  simp [callFunc, hf, h1, hb]

theorem hcall_ok {T : CallSem} (hT : TOK G P T) (hw : HW G U h loc w) {d : Nat} {f : FuncId} {us : List Value} {args : List V} {v : V} {e : Eff} (hargs : VWs w (Mut U h loc) h loc us args) (hc : hcall T h d f args = some (v, e)) (he : applyE h e = some h') :
    (∃ fn c, P.funcs[f]? = some fn ∧ fn.body = some c ∧ (fn.name == "runtime.NumGoroutine") = false) ∧ Calls P f us.toArray w fun e w' => ∃ u loc', e = .returned u ∧ PostV G U h loc w h' v u w' loc' := by
  unfold hcall at hc
  simp only at hc
  generalize hids : reach h 3 (addNew [] (refsVs args)) = ids at hc
  cases hd : distinct ids with
  | false => rw [hd] at hc; simp at hc
  | true =>
    rw [hd] at hc
    simp only [cond_true, Option.bind_eq_some_iff] at hc
    obtain ⟨os, hg, r, hr, hb⟩ := hc
    have hf := hT _ _ _ _ hr
    refine ⟨hf.fn, (hand_ok hw hd hg hargs hf).mono fun e' w' => ?_⟩
    rintro ⟨u, loc2, rfl, hp⟩
    obtain ⟨h'', rfl⟩ := handBack_heap hb
    simp only [applyE, Option.some.injEq] at he
    subst he
    obtain ⟨loc', hp'⟩ := back_ok hw hd hg hp hb
    exact ⟨u, loc', rfl, hp'⟩

theorem isNil_ok {α : Type} {l : List α} (hn : isNil l = true) : l = [] := by cases l <;> simp [isNil] at hn ⊢

theorem hcallS_ok {T : CallSem} (hT : TOK G P T) (hw : HW G U h loc w) {d : Nat} {f : FuncId} {us : List Value} {args : List V} {sh : Sh} {v : V} {e : Eff} (hargs : VWs w (Mut U h loc) h loc us args) (hc : hcallS T h d f args sh = some (v, e)) (he : applyE h e = some h') :
    (∃ fn c, P.funcs[f]? = some fn ∧ fn.body = some c ∧ (fn.name == "runtime.NumGoroutine") = false) ∧ Calls P f us.toArray w fun e w' => ∃ u loc', e = .returned u ∧ PostV G U h loc w h' v u w' loc' := by
  unfold hcallS at hc
  simp only at hc
  generalize hids : reach h 3 (addNew [] (refsVs args)) = ids at hc
  cases hd : distinct ids with
  | false => rw [hd] at hc; simp at hc
  | true =>
    rw [hd] at hc
    simp only [cond_true, Option.bind_eq_some_iff] at hc
    obtain ⟨os, hg, r, hr, v1, hv1, os', hos', hb⟩ := hc
    have hf := hT _ _ _ _ hr
    refine ⟨hf.fn, (hand_ok hw hd hg hargs hf).mono fun e' w' => ?_⟩
    rintro ⟨u, loc2, rfl, hp⟩
    cases hcond : (Nat.beq r.2.1.length os.length && isNil r.2.2) with
    | false => rw [hcond] at hb; simp at hb
    | true =>
      rw [hcond] at hb
      simp only [cond_true] at hb
      simp only [Bool.and_eq_true] at hcond
      have hl := Nat.eq_of_beq_eq_true hcond.1
      have hn := isNil_ok hcond.2
      rw [hn] at hp
      obtain ⟨hl2, hg2⟩ := castOs_ok hos' (by simpa using hl)
      have hp1 : PostV G (Priv U h loc ids) (hpOf .arg 0 (os.map (renO (numFrom .arg 0 ids)))) (argLoc loc ids) w (outHp r.2.1 []) v1 u w' loc2 := ⟨hp.1, hp.2.1, cast_ok sh hp.2.2 hv1⟩
      have hout : ∀ (l : List Obj) i o, outHp l [] i = some o ↔ ∃ j, i = .arg j ∧ l[j]? = some o := by
        intro l i o
        unfold outHp
        constructor
        · intro ho
          split at ho
          · rename_i o2 hh
            obtain ⟨j, hj, hos⟩ := hpOf_some hh
            simp at ho; subst ho
            exact ⟨j, by rw [hj]; simp, hos⟩
          · simp [hpOf] at ho
        · rintro ⟨j, rfl, hj⟩
          rw [hpOf_arg, hj]
      have hp2 : PostV G (Priv U h loc ids) (hpOf .arg 0 (os.map (renO (numFrom .arg 0 ids)))) (argLoc loc ids) w (outHp os' []) v1 u w' loc2 := by
        refine hp1.weak ?_ ?_
        · intro i o ho
          obtain ⟨j, rfl, hj⟩ := (hout _ _ _).1 ho
          obtain ⟨x, hx, o0, hk⟩ := hg2 j o hj
          exact ⟨x, (hout _ _ _).2 ⟨j, rfl, hx⟩, castO_ok hk⟩
        · intro i o' ho'
          obtain ⟨j, rfl, hj⟩ := (hout _ _ _).1 ho'
          have hlt : j < r.2.1.length := by rw [← hl2]; exact (List.getElem?_eq_some_iff.1 hj).1
          exact ⟨_, (hout _ _ _).2 ⟨j, rfl, List.getElem?_eq_getElem hlt⟩⟩
      obtain ⟨h'', rfl⟩ := handBack_heap hb
      simp only [applyE, Option.some.injEq] at he
      subst he
      obtain ⟨loc', hp'⟩ := back_ok hw hd hg hp2 hb
      exact ⟨u, loc', rfl, hp'⟩

theorem VWs.append {M : Nat → Prop} : ∀ {us vs : List Value} {cs ds : List V}, VWs w M h loc us cs → VWs w M h loc vs ds → VWs w M h loc (us ++ vs) (cs ++ ds)
  | [], vs, [], ds, _, h2 => h2
  | [], _, _ :: _, _, h1, _ => by unfold VWs at h1; exact h1.elim
  | _ :: _, _, [], _, h1, _ => by unfold VWs at h1; exact h1.elim
  | u :: us, vs, c :: cs, ds, h1, h2 => by unfold VWs at h1; simp only [List.cons_append]; unfold VWs; exact ⟨h1.1, VWs.append h1.2 h2⟩

theorem CWs.toV {M : Nat → Prop} : ∀ {us : List Value} {cs : List C}, CWs w M h loc us cs → VWs w M h loc us (cs.map V.c)
  | [], [], _ => by simp; unfold VWs; trivial
  | [], _ :: _, h1 => by unfold CWs at h1; exact h1.elim
  | _ :: _, [], h1 => by unfold CWs at h1; exact h1.elim
  | u :: us, c :: cs, h1 => by unfold CWs at h1; simp only [List.map_cons]; unfold VWs; exact ⟨by unfold VW; exact h1.1, CWs.toV h1.2⟩

/-- A call of a value: a function of the program, what it has caught behind the arguments. -/
theorem callV_ok {T Ti : CallSem} (hT : TOK G P T) (hTi : TOK G P Ti) (hw : HW G U h loc w) {me : FuncId} {d : Nat} {ty : TypeId} {f : V} {uf : Value} {us : List Value} {args : List V} {v : V} {e : Eff} (hfv : VW w (Mut U h loc) h loc uf f) (hargs : VWs w (Mut U h loc) h loc us args)
    (hc : callV cfg T Ti me h d ty f args = some (v, e)) (he : applyE h e = some h') :
    ∃ g cap, uf = .func (.func g) #[] cap ∧ (callFunc g (us.toArray ++ cap)).run P w = .ok (.enter g (us.toArray ++ cap)) w ∧ OpOK P G U h loc w h' v (.ok (.enter g (us.toArray ++ cap)) w) := by
  unfold callV at hc
  split at hc
  · rename_i g caps
    unfold VW CW at hfv
    obtain ⟨cs, rfl, hcaps⟩ := hfv
    have hall : VWs w (Mut U h loc) h loc (us ++ cs) (args ++ caps.map V.c) := hargs.append (CWs.toV hcaps)
    have harr : us.toArray ++ cs.toArray = (us ++ cs).toArray := by simp
    refine ⟨g, cs.toArray, rfl, ?_⟩
    rw [harr]
    have fin : (∃ fn c, P.funcs[g]? = some fn ∧ fn.body = some c ∧ (fn.name == "runtime.NumGoroutine") = false) ∧ (Calls P g (us ++ cs).toArray w fun e w' => ∃ u loc', e = .returned u ∧ PostV G U h loc w h' v u w' loc') →
        (callFunc g (us ++ cs).toArray).run P w = .ok (.enter g (us ++ cs).toArray) w ∧ OpOK P G U h loc w h' v (.ok (.enter g (us ++ cs).toArray) w) := by
      rintro ⟨⟨fn, c, h1, h2, h3⟩, hcall⟩
      exact ⟨run_callFunc_go h1 h3 h2 _ w, rfl, hcall⟩
    apply fin
    split at hc
    · unfold retH at hc
      rw [Option.map_eq_some_iff] at hc
      obtain ⟨v', hv', heq⟩ := hc
      simp only [Prod.mk.injEq] at heq
      obtain ⟨rfl, rfl⟩ := heq
      simp only [applyE, Option.some.injEq] at he
      subst he
      obtain ⟨h1, h2⟩ := pcall_ok hT hw hall hv'
      exact ⟨h1, h2.mono fun e w' ⟨u, h3, h4⟩ => ⟨u, loc, h3, h4⟩⟩
    · exact hcallS_ok hT hw hall hc he
    · exact hcall_ok hTi hw hall hc he
  · simp at hc

end
end Go.Vm
