/-
  Regions: in the written order; in whatever order is drawn.
-/
import Derived.Test.YtepghohkfnmhmaaDoorVmDrawA
import Derived.Tactics
import Derived.Orders
import Derived.LoopN
namespace Go.Vm
variable {G : Gl}
set_option linter.unusedVariables false
set_option linter.unusedSimpArgs false

/-- The machine's state stands for the frame and the world; what has become of memory since the start. -/
def Rp (G : Gl) (U : Nat → Prop) (h0 : Hp) (loc0 : Loc) (w0 : World) (nt : Nat) (fr : Fr) (h : Hp) (a : Act) (w : World) : Prop :=
  ∃ loc, HW G U h loc w ∧ FrW w (Mut U h loc) h loc a fr ∧ Ext U h0 loc0 w0 h loc w ∧ a.tmps.size = nt ∧ a.defers = []

section
variable {P : Program} {cfg : Cfg} {T Ti : CallSem} {me nt : Nat} {U : Nat → Prop} {h0 : Hp} {loc0 : Loc} {w0 : World} {fr fr' : Fr} {h h' : Hp} {a : Act} {w : World} {ops : Array Oper}

theorem guardA_ok {M : Nat → Prop} {loc : Loc} {o : Oper} {g : Bool} (hf : FrW w M h loc a fr) (hg : guardA fr ops.toList o.guard = some g) : Region.wanted o (yielded ops a.tmps) = g := by
  unfold Region.wanted
  cases hgd : o.guard with
  | none => rw [hgd] at hg; simp [guardA] at hg; rw [hg]
  | some p =>
    obtain ⟨j, want⟩ := p
    rw [hgd] at hg
    simp only [guardA, Option.bind_eq_some_iff] at hg
    obtain ⟨t, ⟨oj, hoj, hdst⟩, hg⟩ := hg
    have hoj' : ops[j]? = some oj := by simpa using hoj
    have hft := hf t
    simp only [yielded, hoj', Option.bind_some, hdst]
    split at hg
    · rename_i b hfr
      rw [hfr] at hft
      have hv := hft.sc
      simp at hg
      subst hg
      have : a.tmps[t]? = some (.bool b) := by
        rw [Array.getD_eq_getD_getElem?] at hv
        cases hx : a.tmps[t]? with
        | none => rw [hx] at hv; simp [undef] at hv
        | some x => rw [hx] at hv; simp at hv; rw [hv]
      rw [this]
      simp
    · rename_i hfr
      rw [hfr] at hft
      unfold VW CW at hft
      simp at hg
      subst hg
      rw [Array.getD_eq_getD_getElem?] at hft
      cases hx : a.tmps[t]? with
      | none => simp
      | some x =>
        rw [hx] at hft
        simp only [Option.getD_some] at hft
        subst hft
        simp [undef]
    · cases hg

theorem FrW.put {M : Nat → Prop} {loc : Loc} {dst : Option Nat} {u : Value} {v : V} (hf : FrW w M h loc a fr) (hv : VW w M h loc u v) (hp : putD nt fr dst v = some fr') (hn : a.tmps.size = nt) :
    FrW w M h loc (a.put dst u) fr' ∧ (a.put dst u).tmps.size = nt ∧ (a.put dst u).defers = a.defers := by
  cases dst with
  | none => simp [putD] at hp; subst hp; exact ⟨hf, hn, rfl⟩
  | some d =>
    simp only [putD] at hp
    cases hb : Nat.blt d nt with
    | false => rw [hb] at hp; simp at hp
    | true =>
      rw [hb] at hp
      simp at hp
      subst hp
      have hlt : d < a.tmps.size := by rw [hn]; simp [Nat.blt] at hb; omega
      refine ⟨fun t => ?_, by simpa [Act.put] using hn, rfl⟩
      simp only [Act.put]
      by_cases ht : t = d
      · subst ht
        rw [upd_self]
        rw [Array.getD_eq_getD_getElem?, Array.getElem?_setIfInBounds_self_of_lt hlt]
        exact hv
      · rw [upd_ne _ _ ht, Array.getD_eq_getD_getElem?, Array.getElem?_setIfInBounds_ne (Ne.symm ht), ← Array.getD_eq_getD_getElem?]
        exact hf t

theorem FrW.ext {loc loc' : Loc} {w' : World} (e : Ext U h loc w h' loc' w') (hf : FrW w (Mut U h loc) h loc a fr) : FrW w' (Mut U h' loc') h' loc' a fr := fun t => VW.ext e _ (hf t)

theorem Rp.post {loc loc' : Loc} {w' : World} {dst : Option Nat} {u : Value} {v : V} (hf : FrW w (Mut U h loc) h loc a fr) (hex : Ext U h0 loc0 w0 h loc w) (hn : a.tmps.size = nt) (hd : a.defers = []) (hp : PostV G U h loc w h' v u w' loc') (hput : putD nt fr dst v = some fr') :
    Rp G U h0 loc0 w0 nt fr' h' (a.put dst u) w' := by
  obtain ⟨h1, h2, h3⟩ := (hf.ext hp.2.1).put hp.2.2 hput hn
  exact ⟨loc', hp.1, h1, hex.trans hp.2.1, h2, by rw [h3, hd]⟩

/-- One operation that has been carried out by the machine. -/
theorem op_wp (ht : TabOK P cfg) (hT : TOK G P T) (hTi : TOK G P Ti) {o : Oper} {v : V} {e : Eff} {K : Act → World → Prop} {Q : Exit → Act → World → Prop} (hr : Rp G U h0 loc0 w0 nt fr h a w)
    (ha : aop cfg T Ti me fr h o.dst o.type o.op = some (v, e)) (he : applyE h e = some h') (hp : putD nt fr o.dst v = some fr') (hK : ∀ a' w', Rp G U h0 loc0 w0 nt fr' h' a' w' → K a' w') : o.wp P a w K Q := by
  obtain ⟨loc, hw, hf, hex, hn, hd⟩ := hr
  have hok := aop_ok ht hT hTi hw hf ha he
  unfold Oper.wp
  generalize (execOp a.eval o).run P w = r at hok ⊢
  cases r with
  | halt x w' => exact hok.elim
  | ok n w' =>
    cases n with
    | value u => obtain ⟨loc', hpv⟩ := hok; exact hK _ _ (Rp.post hf hex hn hd hpv hp)
    | skip => obtain ⟨loc', hpv⟩ := hok; exact hK _ _ (Rp.post hf hex hn hd hpv hp)
    | enter f args =>
      obtain ⟨rfl, hc⟩ := hok
      refine hc.mono fun e' w'' => ?_
      rintro ⟨u, loc', rfl, hpv⟩
      exact hK _ _ (Rp.post hf hex hn hd hpv hp)
    | _ => exact hok.elim

theorem skip_wp {o : Oper} (hr : Rp G U h0 loc0 w0 nt fr h a w) (hp : putD nt fr o.dst (.c .und) = some fr') : Rp G U h0 loc0 w0 nt fr' h (a.put o.dst undef) w := by
  obtain ⟨loc, hw, hf, hex, hn, hd⟩ := hr
  exact Rp.post hf hex hn hd ⟨hw, Ext.refl _ _ _ _, by unfold VW CW; rfl⟩ hp

/-- The operations, one behind the other. -/
theorem ops_wp (ht : TabOK P cfg) (hT : TOK G P T) (hTi : TOK G P Ti) {Q : Exit → Act → World → Prop} {s' : St} : ∀ (l : List Oper) (s : St) (a : Act) (w : World), Rp G U h0 loc0 w0 nt s.fr s.h a w →
    runOps cfg T Ti me nt ops.toList l s = some s' → (∀ a' w', Rp G U h0 loc0 w0 nt s'.fr s'.h a' w' → Q .normal a' w') → wpList P ops Q l a w
  | [], s, a, w, hr, hs, hQ => by simp [runOps] at hs; subst hs; exact hQ a w hr
  | o :: l, s, a, w, hr, hs, hQ => by
    simp only [runOps, Option.bind_eq_some_iff] at hs
    obtain ⟨s1, h1, hs⟩ := hs
    simp only [stepO, Option.bind_eq_some_iff] at h1
    obtain ⟨g, hg, h1⟩ := h1
    have hwant : Region.wanted o (yielded ops a.tmps) = g := by
      obtain ⟨loc, hw, hf, _⟩ := hr
      exact guardA_ok hf hg
    simp only [wpList, hwant]
    cases g with
    | false =>
      simp only [cond_false, Option.bind_eq_some_iff, Option.some.injEq] at h1
      obtain ⟨fr', hp, rfl⟩ := h1
      exact ops_wp ht hT hTi l ⟨fr', s.h⟩ _ _ (skip_wp hr hp) hs hQ
    | true =>
      simp only [cond_true, Option.bind_eq_some_iff, Option.some.injEq] at h1
      obtain ⟨⟨v, e⟩, ha, h', he, fr', hp, rfl⟩ := h1
      exact .inl (op_wp ht hT hTi hr ha he hp fun a' w' hr' => ops_wp ht hT hTi l _ _ _ hr' hs hQ)

/-! ### Whatever order -/

def stepAt (cfg : Cfg) (T Ti : CallSem) (me nt : Nat) (dl : List Id) (ops : Array Oper) (i : Nat) (s : SD) : Option SD :=
  match ops[i]? with
  | none => some s
  | some o => stepD cfg T Ti me nt dl ops.toList (clsIn cfg me ops.toList i o) o s

def anyD (cfg : Cfg) (T Ti : CallSem) (me nt : Nat) (dl : List Id) (ops : Array Oper) (Q : SD → Prop) : Nat → Array Bool → SD → Prop
  | 0, listed, s => Region.ready .any ops listed = [] ∧ Q s
  | fuel + 1, listed, s => (Region.ready .any ops listed = [] → Q s) ∧
    ∀ i ∈ Region.ready .any ops listed, ∃ s', stepAt cfg T Ti me nt dl ops i s = some s' ∧ anyD cfg T Ti me nt dl ops Q fuel (listed.setIfInBounds i true) s'

variable {dl : List Id}

/-- What one operation yields, whatever it does to the table. -/
def evD (cfg : Cfg) (T Ti : CallSem) (me : Nat) (dl : List Id) (ops : List Oper) (c : Cls) (o : Oper) (fr : Fr) (h hr : Hp) : Option (Bool × V × Eff) :=
  (guardA fr ops o.guard).bind fun g => bif g then bif okD dl c fr o.op then (aop cfg T Ti me fr (bif c.isW then h else hr) o.dst o.type o.op).bind fun r => bif c.isW || quietE r.2 then some (true, r.1, r.2) else none
    else none else some (false, .c .und, .none)

def hrD (c : Cls) (g : Bool) (fr : Fr) (op : Op) (h' hr : Hp) : Hp := bif g then nextHr c fr op h' hr else hr

theorem stepD_eq {c : Cls} {o : Oper} {s : SD} : stepD cfg T Ti me nt dl ops.toList c o s =
    (evD cfg T Ti me dl ops.toList c o s.fr s.h s.hr).bind fun r => (applyE s.h r.2.2).bind fun h' => (putD nt s.fr o.dst r.2.1).bind fun fr' => some ⟨fr', h', hrD c r.1 s.fr o.op h' s.hr⟩ := by
  unfold stepD evD hrD
  cases guardA s.fr ops.toList o.guard with
  | none => rfl
  | some g =>
    cases g with
    | false => simp [applyE]
    | true =>
      simp only [Option.bind_some, cond_true]
      cases okD dl c s.fr o.op with
      | false => rfl
      | true =>
        simp only [cond_true]
        cases aop cfg T Ti me s.fr (bif c.isW then s.h else s.hr) o.dst o.type o.op with
        | none => rfl
        | some r => cases hq : (c.isW || quietE r.2) <;> simp [hq]

theorem guardA_congr {o : Oper} (hx : ∀ t ∈ o.looksAt ops, fr t = fr' t) : guardA fr ops.toList o.guard = guardA fr' ops.toList o.guard := by
  cases hg : o.guard with
  | none => rfl
  | some p =>
    obtain ⟨j, want⟩ := p
    simp only [guardA]
    cases ho : ops.toList[j]? with
    | none => rfl
    | some oj =>
      cases hdst : oj.dst with
      | none => simp [hdst]
      | some t =>
        simp only [Option.bind_some, hdst]
        have ho' : ops[j]? = some oj := by simpa using ho
        rw [hx t (by simp [Oper.looksAt, hg, ho', hdst])]

theorem looks_op {o : Oper} {t : Tmp} (h : .tmp t ∈ o.op.operands) : t ∈ o.looksAt ops := by
  unfold Oper.looksAt
  exact List.mem_append_left _ (List.mem_filterMap.2 ⟨.tmp t, by simpa using h, rfl⟩)

theorem stId_congr {op : Op} (hx : ∀ t, .tmp t ∈ op.operands → fr t = fr' t) : stId fr op = stId fr' op := by
  cases op <;> simp only [stId]
  rw [ev_congr fun t ht => hx t (by simp [Op.operands, ht])]

theorem ldId_congr {op : Op} (hx : ∀ t, .tmp t ∈ op.operands → fr t = fr' t) : ldId fr op = ldId fr' op := by
  cases op <;> simp only [ldId]
  rw [ev_congr fun t ht => hx t (by simp [Op.operands, ht])]

theorem okD_congr {c : Cls} {op : Op} (hx : ∀ t, .tmp t ∈ op.operands → fr t = fr' t) : okD dl c fr op = okD dl c fr' op := by
  cases c <;> simp only [okD]
  · rw [ldId_congr hx]
  · rw [stId_congr hx]

theorem hrD_congr {c : Cls} {g : Bool} {op : Op} {h1 h2 : Hp} (hx : ∀ t, .tmp t ∈ op.operands → fr t = fr' t) : hrD c g fr op h1 h2 = hrD c g fr' op h1 h2 := by
  unfold hrD
  cases g with
  | false => rfl
  | true => cases c <;> simp only [nextHr, cond_true]; rw [stId_congr hx]

theorem evD_congr {c : Cls} {o : Oper} {hr : Hp} (hx : ∀ t ∈ o.looksAt ops, fr t = fr' t) : evD cfg T Ti me dl ops.toList c o fr h hr = evD cfg T Ti me dl ops.toList c o fr' h hr := by
  unfold evD
  rw [guardA_congr hx, okD_congr fun t ht => hx t (looks_op ht)]
  have : ∀ hh, aop cfg T Ti me fr hh o.dst o.type o.op = aop cfg T Ti me fr' hh o.dst o.type o.op := fun hh => aop_congr fun t ht' => hx t (looks_op ht')
  rw [this]

theorem putD_looks {o oi : Oper} {v : V} (hd : ∀ d, oi.dst = some d → d ∉ o.looksAt ops) (hp : putD nt fr oi.dst v = some fr') : ∀ t ∈ o.looksAt ops, fr' t = fr t := by
  intro t htm
  unfold putD at hp
  split at hp
  · rename_i d hdst
    cases hb : Nat.blt d nt with
    | false => rw [hb] at hp; simp at hp
    | true =>
      rw [hb] at hp
      simp at hp
      subst hp
      exact upd_ne _ _ (fun e => hd d hdst (e ▸ htm))
  · simp at hp; subst hp; rfl

theorem clsIn_pure {o : Oper} {i : Nat} (hc : clsIn cfg me ops.toList i o = .pure) : clsOf cfg me o.op = .pure := by
  unfold clsIn at hc
  cases h1 : isAppend o.op with
  | true => rw [h1] at hc; simp only [cond_true] at hc; cases ho : ordered cfg me ops.toList i o <;> rw [ho] at hc <;> cases hc
  | false =>
    rw [h1] at hc
    simp only [cond_false] at hc
    cases h2 : isLoad o.op with
    | true => rw [h2] at hc; simp only [cond_true] at hc; cases ho : looseTo isStore ops.toList i o <;> rw [ho] at hc <;> cases hc
    | false =>
      rw [h2] at hc
      simp only [cond_false] at hc
      cases h3 : isStore o.op with
      | true => rw [h3] at hc; simp only [cond_true] at hc; cases ho : looseTo isLoad ops.toList i o <;> rw [ho] at hc <;> cases hc
      | false => rw [h3] at hc; exact hc

theorem evD_pure {o : Oper} {i : Nat} {hr h2 hr2 : Hp} {r : Bool × V × Eff} (hc : clsIn cfg me ops.toList i o = .pure) (he : evD cfg T Ti me dl ops.toList .pure o fr h hr = some r) :
    r.2.2 = .none ∧ evD cfg T Ti me dl ops.toList .pure o fr h2 hr2 = some r := by
  have hcl := clsIn_pure hc
  unfold evD at he ⊢
  rw [Option.bind_eq_some_iff] at he
  obtain ⟨g, hg, he⟩ := he
  rw [hg]
  cases g with
  | false => simp at he; subst he; exact ⟨rfl, rfl⟩
  | true =>
    simp only [cond_true, Cls.isW, cond_false, okD, Option.bind_eq_some_iff] at he
    obtain ⟨⟨v, e⟩, ha, he⟩ := he
    obtain ⟨rfl, h3⟩ := aop_pure hcl ha
    simp [quietE] at he
    subst he
    refine ⟨rfl, ?_⟩
    simp only [Option.bind_some, cond_true, Cls.isW, cond_false, okD]
    rw [h3]
    simp [quietE]

theorem putD_comm {d d' : Option Nat} {v v' : V} {f1 f2 : Fr} (hne : ∀ x, d = some x → d' ≠ some x) (h1 : putD nt fr d v = some f1) (h2 : putD nt f1 d' v' = some f2) :
    ∃ f3, putD nt fr d' v' = some f3 ∧ putD nt f3 d v = some f2 := by
  cases d with
  | none =>
    simp [putD] at h1; subst h1
    exact ⟨f2, h2, rfl⟩
  | some x =>
    cases d' with
    | none =>
      simp [putD] at h2; subst h2
      exact ⟨fr, rfl, h1⟩
    | some y =>
      have hxy : x ≠ y := fun e => hne x rfl (by rw [e])
      simp only [putD] at h1 h2 ⊢
      cases hb1 : Nat.blt x nt with
      | false => rw [hb1] at h1; simp at h1
      | true =>
        cases hb2 : Nat.blt y nt with
        | false => rw [hb2] at h2; simp at h2
        | true =>
          rw [hb1] at h1
          rw [hb2] at h2
          simp at h1 h2
          subst h1
          subst h2
          refine ⟨_, rfl, ?_⟩
          simp only [cond_true, Option.some.injEq]
          funext t
          by_cases h3 : t = x
          · subst h3; rw [upd_self, upd_ne _ _ hxy, upd_self]
          · by_cases h4 : t = y
            · subst h4; rw [upd_ne _ _ h3, upd_self, upd_self]
            · rw [upd_ne _ _ h3, upd_ne _ _ h4, upd_ne _ _ h4, upd_ne _ _ h3]

theorem applyE_comm {e e' : Eff} {h1 h2 : Hp} (hq : quietE e = true) (hq' : quietE e' = true) (ha : applyE h e = some h1) (hb : applyE h1 e' = some h2) : ∃ h3, applyE h e' = some h3 ∧ applyE h3 e = some h2 := by
  cases e with
  | heap => simp [quietE] at hq
  | none =>
    simp [applyE] at ha; subst ha
    exact ⟨h2, hb, rfl⟩
  | put i o =>
    cases e' with
    | heap => simp [quietE] at hq'
    | none =>
      simp [applyE] at hb; subst hb
      exact ⟨h, rfl, ha⟩
    | put j o' =>
      simp only [applyE] at ha hb ⊢
      cases hi : h i with
      | some x => rw [hi] at ha; cases ha
      | none =>
        rw [hi] at ha
        simp at ha
        subst ha
        have hji : j ≠ i := by
          rintro rfl
          rw [hput_self] at hb
          cases hb
        rw [hput_ne _ _ hji] at hb
        cases hj : h j with
        | some x => rw [hj] at hb; cases hb
        | none =>
          rw [hj] at hb
          simp at hb
          subst hb
          refine ⟨_, rfl, ?_⟩
          rw [hput_ne _ _ (Ne.symm hji), hi]
          simp only [Option.some.injEq]
          funext t
          by_cases h3 : t = i
          · subst h3; rw [hput_self, hput_ne _ _ (Ne.symm hji), hput_self]
          · by_cases h4 : t = j
            · subst h4; rw [hput_ne _ _ h3, hput_self, hput_self]
            · rw [hput_ne _ _ h3, hput_ne _ _ h4, hput_ne _ _ h4, hput_ne _ _ h3]

theorem evD_quiet {c : Cls} {o : Oper} {hr : Hp} {r : Bool × V × Eff} (hc : c.isW = false) (he : evD cfg T Ti me dl ops.toList c o fr h hr = some r) : quietE r.2.2 = true ∧ ∀ h2, evD cfg T Ti me dl ops.toList c o fr h2 hr = some r := by
  unfold evD at he ⊢
  rw [hc] at he ⊢
  rw [Option.bind_eq_some_iff] at he
  obtain ⟨g, hg, he⟩ := he
  rw [hg]
  cases g with
  | false => simp at he; subst he; exact ⟨rfl, fun _ => rfl⟩
  | true =>
    cases hok : okD dl c fr o.op with
    | false => rw [hok] at he; simp at he
    | true =>
      rw [hok] at he
      simp only [cond_true, cond_false, Bool.false_or, Option.bind_eq_some_iff] at he
      obtain ⟨r0, ha, he⟩ := he
      cases hq : quietE r0.2 with
      | false => rw [hq] at he; simp at he
      | true =>
        rw [hq] at he
        simp at he
        subst he
        refine ⟨hq, fun h2 => ?_⟩
        simp only [Option.bind_some, cond_true, cond_false, Bool.false_or]
        rw [ha]
        simp [hq]

theorem hrD_quiet {c : Cls} {g : Bool} {op : Op} {h' hr : Hp} (hc : c.isW = false) : hrD c g fr op h' hr = hr := by
  unfold hrD
  cases g <;> cases c <;> simp [Cls.isW] at hc <;> rfl

/-- A load does not see an object that it does not look at. -/
theorem ld_other {T : TypeId} {a : V} {id : Id} {ob : Vm.Obj} (hne : ∀ j, addrId a = some j → j ≠ id) : ld cfg (hput h id ob) T a = ld cfg h T a := by
  unfold ld
  cases cfg.tb T with
  | none => rfl
  | some i =>
    simp only [Option.bind_some]
    split
    · rename_i j off
      rw [hput_ne _ _ (hne j rfl)]
    · rfl
    · rename_i j k x off
      rw [hput_ne _ _ (hne j rfl)]
    · rfl

theorem lload_other {o : Oper} {i : Nat} {id : Id} {ob : Vm.Obj} {hr : Hp} (hc : clsIn cfg me ops.toList i o = .lload) (hid : id ∈ dl) : evD cfg T Ti me dl ops.toList .lload o fr h (hput hr id ob) = evD cfg T Ti me dl ops.toList .lload o fr h hr := by
  have hld : ∃ t x, o.op = .load t x := by
    unfold clsIn at hc
    cases h1 : isAppend o.op with
    | true => rw [h1] at hc; simp only [cond_true] at hc; cases ho : ordered cfg me ops.toList i o <;> rw [ho] at hc <;> cases hc
    | false =>
      rw [h1] at hc
      simp only [cond_false] at hc
      cases h2 : isLoad o.op with
      | true => cases hop : o.op <;> rw [hop] at h2 <;> cases h2; exact ⟨_, _, rfl⟩
      | false =>
        rw [h2] at hc
        simp only [cond_false] at hc
        cases h3 : isStore o.op with
        | true => rw [h3] at hc; simp only [cond_true] at hc; cases ho : looseTo isLoad ops.toList i o <;> rw [ho] at hc <;> cases hc
        | false =>
          rw [h3] at hc
          simp only [cond_false] at hc
          unfold clsOf at hc
          split at hc <;> first | cases hc | (split at hc <;> cases hc)
  obtain ⟨t, x, hop⟩ := hld
  unfold evD
  cases guardA fr ops.toList o.guard with
  | none => rfl
  | some g =>
    cases g with
    | false => rfl
    | true =>
      simp only [Option.bind_some, cond_true]
      cases hok : okD dl .lload fr o.op with
      | false => rfl
      | true =>
        simp only [cond_true, Cls.isW, cond_false]
        rw [hop] at hok ⊢
        simp only [aop]
        cases hev : ev fr x with
        | none => rfl
        | some a =>
          simp only [Option.bind_some]
          rw [ld_other fun j hj he => ?_]
          subst he
          simp only [okD, ldId, hev, Option.bind_some, hj] at hok
          rw [memId_iff.2 hid] at hok
          cases hok

/-- A loose store writes one object, on both tables. -/
theorem lstore_at {o : Oper} {i : Nat} {hr h' : Hp} {r : Bool × V × Eff} (hc : clsIn cfg me ops.toList i o = .lstore) (he : evD cfg T Ti me dl ops.toList .lstore o fr h hr = some r) :
    ∃ k : Hp → Hp, (∀ hr', hrD .lstore r.1 fr o.op h' hr' = k hr') ∧ ((∀ hr', k hr' = hr') ∨ ∃ id ob, id ∈ dl ∧ ∀ hr', k hr' = hput hr' id ob) := by
  unfold evD at he
  rw [Option.bind_eq_some_iff] at he
  obtain ⟨g, hg, he⟩ := he
  cases g with
  | false =>
    simp at he; subst he
    exact ⟨fun x => x, fun _ => rfl, .inl fun _ => rfl⟩
  | true =>
    cases hok : okD dl .lstore fr o.op with
    | false => rw [hok] at he; simp at he
    | true =>
      rw [hok] at he
      simp only [cond_true, Cls.isW, Bool.true_or, Option.bind_eq_some_iff, Option.some.injEq] at he
      obtain ⟨r0, ha, rfl⟩ := he
      simp only [okD] at hok
      split at hok
      · rename_i id hid
        simp only [hrD, cond_true, nextHr, hid]
        cases hx : h' id with
        | none => exact ⟨fun x => x, fun _ => rfl, .inl fun _ => rfl⟩
        | some ob => exact ⟨fun x => hput x id ob, fun _ => rfl, .inr ⟨id, ob, memId_iff.1 hok, fun _ => rfl⟩⟩
      · cases hok

theorem evD_hr {c : Cls} {o : Oper} {hr hr2 : Hp} (hc : c.isW = true) : evD cfg T Ti me dl ops.toList c o fr h hr = evD cfg T Ti me dl ops.toList c o fr h hr2 := by
  unfold evD
  rw [hc]
  rfl

/-- A load has no effect. -/
theorem lload_none {o : Oper} {i : Nat} {hr : Hp} {r : Bool × V × Eff} (hc : clsIn cfg me ops.toList i o = .lload) (he : evD cfg T Ti me dl ops.toList .lload o fr h hr = some r) : r.2.2 = .none := by
  have hld : ∃ t x, o.op = .load t x := by
    unfold clsIn at hc
    cases h1 : isAppend o.op with
    | true => rw [h1] at hc; simp only [cond_true] at hc; cases ho : ordered cfg me ops.toList i o <;> rw [ho] at hc <;> cases hc
    | false =>
      rw [h1] at hc
      simp only [cond_false] at hc
      cases h2 : isLoad o.op with
      | true => cases hop : o.op <;> rw [hop] at h2 <;> cases h2; exact ⟨_, _, rfl⟩
      | false =>
        rw [h2] at hc
        simp only [cond_false] at hc
        cases h3 : isStore o.op with
        | true => rw [h3] at hc; simp only [cond_true] at hc; cases ho : looseTo isLoad ops.toList i o <;> rw [ho] at hc <;> cases hc
        | false =>
          rw [h3] at hc
          simp only [cond_false] at hc
          unfold clsOf at hc
          split at hc <;> first | cases hc | (split at hc <;> cases hc)
  obtain ⟨t, x, hop⟩ := hld
  unfold evD at he
  rw [Option.bind_eq_some_iff] at he
  obtain ⟨g, hg, he⟩ := he
  cases g with
  | false => simp at he; subst he; rfl
  | true =>
    cases hok : okD dl .lload fr o.op with
    | false => rw [hok] at he; simp at he
    | true =>
      rw [hok] at he
      simp only [cond_true, Cls.isW, cond_false, Bool.false_or, Option.bind_eq_some_iff] at he
      obtain ⟨r0, ha, he⟩ := he
      rw [hop] at ha
      simp only [aop, Option.bind_eq_some_iff] at ha
      obtain ⟨a, _, ha⟩ := ha
      obtain ⟨_, h2⟩ := retH_none (v := r0.1) (e := r0.2) ha
      cases hq : quietE r0.2 with
      | false => rw [hq] at he; simp at he
      | true => rw [hq] at he; simp at he; subst he; exact h2

/-- Two operations that are apart may change places. -/
theorem stepD_swap {i j : Nat} {oi oj : Oper} {s s1 s2 : SD} (hap : oi.apart ops oj = true) (hcm : compat (clsIn cfg me ops.toList i oi) (clsIn cfg me ops.toList j oj) = true)
    (h1 : stepD cfg T Ti me nt dl ops.toList (clsIn cfg me ops.toList i oi) oi s = some s1) (h2 : stepD cfg T Ti me nt dl ops.toList (clsIn cfg me ops.toList j oj) oj s1 = some s2) :
    ∃ s3, stepD cfg T Ti me nt dl ops.toList (clsIn cfg me ops.toList j oj) oj s = some s3 ∧ stepD cfg T Ti me nt dl ops.toList (clsIn cfg me ops.toList i oi) oi s3 = some s2 := by
  obtain ⟨a1, a2, a3⟩ := Oper.apart_spec hap
  rw [stepD_eq] at h1 h2
  simp only [stepD_eq, Option.bind_eq_some_iff, Option.some.injEq]
  simp only [Option.bind_eq_some_iff, Option.some.injEq] at h1 h2
  obtain ⟨ri, he1, hi1, hp1, fi1, hf1, rfl⟩ := h1
  obtain ⟨rj, he2, hj2, hp2, fj2, hf2, rfl⟩ := h2
  simp only at he2 hp2 hf2
  obtain ⟨f3, hf3, hf4⟩ := putD_comm a2 hf1 hf2
  rw [evD_congr (fr' := s.fr) (putD_looks a1 hf1)] at he2
  rw [hrD_congr (fr := fi1) (fr' := s.fr) fun t ht => putD_looks (o := oj) a1 hf1 t (looks_op ht)]
  have hcong : ∀ c hh hhr, evD cfg T Ti me dl ops.toList c oi f3 hh hhr = evD cfg T Ti me dl ops.toList c oi s.fr hh hhr := fun c hh hhr => evD_congr (putD_looks a3 hf3)
  have hrcong : ∀ c g x y, hrD c g f3 oi.op x y = hrD c g s.fr oi.op x y := fun c g x y => hrD_congr fun t ht => putD_looks (o := oi) a3 hf3 t (looks_op ht)
  generalize hci : clsIn cfg me ops.toList i oi = ci at *
  generalize hcj : clsIn cfg me ops.toList j oj = cj at *
  by_cases hpi : ci = .pure
  · subst hpi
    obtain ⟨n1, p1⟩ := evD_pure (h2 := s.h) (hr2 := s.hr) hci he1
    rw [n1] at hp1
    simp [applyE] at hp1
    subst hp1
    rw [hrD_quiet (c := .pure) rfl] at he2 ⊢
    refine ⟨_, ⟨rj, he2, hj2, hp2, f3, hf3, rfl⟩, ri, ?_, hj2, by rw [n1]; rfl, fj2, hf4, ?_⟩
    · rw [hcong]; exact (evD_pure hci he1).2
    · rw [hrD_quiet (c := .pure) rfl]
  · by_cases hpj : cj = .pure
    · subst hpj
      obtain ⟨n2, p2⟩ := evD_pure (h2 := s.h) (hr2 := s.hr) hcj he2
      rw [n2] at hp2
      simp [applyE] at hp2
      subst hp2
      rw [hrD_quiet (c := .pure) rfl]
      refine ⟨_, ⟨rj, p2, s.h, by rw [n2]; rfl, f3, hf3, rfl⟩, ri, ?_, hi1, hp1, fj2, hf4, ?_⟩
      · rw [hcong, hrD_quiet (c := .pure) rfl]; exact he1
      · simp only [hrD_quiet (c := Cls.pure) (h' := s.h) (hr := s.hr) rfl]; rw [hrcong]
    · by_cases hq : ci.isW = false ∧ cj.isW = false
      · rw [hrD_quiet hq.1] at he2 ⊢
        obtain ⟨q1, p1⟩ := evD_quiet hq.1 he1
        obtain ⟨q2, p2⟩ := evD_quiet hq.2 he2
        obtain ⟨h3, e1, e2⟩ := applyE_comm q1 q2 hp1 hp2
        refine ⟨_, ⟨rj, p2 s.h, h3, e1, f3, hf3, rfl⟩, ri, ?_, hj2, e2, fj2, hf4, ?_⟩
        · rw [hcong, hrD_quiet hq.2]; exact p1 h3
        · simp only [hrD_quiet hq.1, hrD_quiet hq.2]
      · have hcase : (ci = .lload ∧ cj = .lstore) ∨ (ci = .lstore ∧ cj = .lload) := by
          cases ci <;> cases cj <;> simp [compat, Cls.isPure, Cls.isW] at hcm hpi hpj hq ⊢
        rcases hcase with ⟨rfl, rfl⟩ | ⟨rfl, rfl⟩
        · -- a load, then a store
          have n1 := lload_none hci he1
          rw [n1] at hp1
          simp [applyE] at hp1
          subst hp1
          rw [hrD_quiet (c := .lload) rfl] at he2 ⊢
          obtain ⟨k, hk1, hk2⟩ := lstore_at (h' := hj2) hcj he2
          refine ⟨_, ⟨rj, he2, hj2, hp2, f3, hf3, rfl⟩, ri, ?_, hj2, by rw [n1]; rfl, fj2, hf4, ?_⟩
          · rw [hcong]
            simp only [hk1]
            rcases hk2 with hk2 | ⟨id, ob, hid, hk2⟩
            · rw [hk2]; exact (evD_quiet rfl he1).2 _
            · rw [hk2, lload_other hci hid]; exact (evD_quiet rfl he1).2 _
          · rw [hrD_quiet (c := .lload) rfl]
        · -- a store, then a load
          have n2 := lload_none hcj he2
          rw [n2] at hp2
          simp [applyE] at hp2
          subst hp2
          obtain ⟨k, hk1, hk2⟩ := lstore_at (h' := hi1) hci he1
          rw [hrD_quiet (c := .lload) rfl]
          have he3 : evD cfg T Ti me dl ops.toList .lload oj s.fr s.h s.hr = some rj := by
            simp only [hk1] at he2
            rcases hk2 with hk2 | ⟨id, ob, hid, hk2⟩
            · rw [hk2] at he2; exact (evD_quiet rfl he2).2 _
            · rw [hk2, lload_other hcj hid] at he2; exact (evD_quiet rfl he2).2 _
          refine ⟨_, ⟨rj, he3, s.h, by rw [n2]; rfl, f3, hf3, rfl⟩, ri, ?_, hi1, hp1, fj2, hf4, ?_⟩
          · rw [hcong, hrD_quiet (c := .lload) rfl]; exact he1
          · simp only [hrD_quiet (c := Cls.lload) (h' := s.h) (hr := s.hr) rfl]; rw [hrcong]

theorem anyD_first {Q : SD → Prop} {i : Nat} {oi : Oper} (hi : ops[i]? = some oi) :
    ∀ (fuel : Nat) (listed : Array Bool) (s s1 : SD),
      (∀ j oj, ops[j]? = some oj → j ≠ i → listed.getD j true = false → (∀ e ∈ oj.after, Region.binds .any e = true → e.on ≠ i) → oi.apart ops oj = true ∧ compat (clsIn cfg me ops.toList i oi) (clsIn cfg me ops.toList j oj) = true) →
      i ∈ Region.ready .any ops listed → stepAt cfg T Ti me nt dl ops i s = some s1 →
      anyD cfg T Ti me nt dl ops Q fuel (listed.setIfInBounds i true) s1 → anyD cfg T Ti me nt dl ops Q (fuel + 1) listed s := by
  intro fuel
  induction fuel with
  | zero =>
    intro listed s s1 _ hr hy H
    refine ⟨fun h => (by rw [h] at hr; cases hr), fun j hj => ?_⟩
    by_cases hji : j = i
    · subst hji; exact ⟨s1, hy, H⟩
    · have := ready_mono hj hji
      rw [H.1] at this
      cases this
  | succ fuel ih =>
    intro listed s s1 hfree hr hy H
    refine ⟨fun h => (by rw [h] at hr; cases hr), fun j hj => ?_⟩
    by_cases hji : j = i
    · subst hji; exact ⟨s1, hy, H⟩
    · obtain ⟨s12, h1, h2⟩ := H.2 j (ready_mono hj hji)
      obtain ⟨hjun, oj, hoj, hall⟩ := mem_ready.1 hj
      have hnot : ∀ e ∈ oj.after, Region.binds .any e = true → e.on ≠ i := fun e he hb heq => by
        have h1 := hall e he hb
        have h0 := (mem_ready.1 hr).1
        rw [heq] at h1
        rcases Nat.lt_or_ge i listed.size with h' | h'
        · simp [h'] at h0 h1; rw [h0] at h1; cases h1
        · simp [Array.getElem?_eq_none h'] at h1
      obtain ⟨hap, hcm⟩ := hfree j oj hoj hji hjun hnot
      have hy' := hy
      simp only [stepAt, hi] at hy'
      simp only [stepAt, hoj] at h1
      obtain ⟨s3, h3, h4⟩ := stepD_swap hap hcm hy' h1
      refine ⟨s3, by simp only [stepAt, hoj]; exact h3, ?_⟩
      have hfree' : ∀ k ok, ops[k]? = some ok → k ≠ i → (listed.setIfInBounds j true).getD k true = false →
          (∀ e ∈ ok.after, Region.binds .any e = true → e.on ≠ i) → oi.apart ops ok = true ∧ compat (clsIn cfg me ops.toList i oi) (clsIn cfg me ops.toList k ok) = true := fun k ok hk hki hun hno => by
        refine hfree k ok hk hki ?_ hno
        by_cases hjk : j = k
        · subst hjk; exact hjun
        · rw [getD_set_ne true hjk] at hun; exact hun
      exact ih (listed.setIfInBounds j true) s3 s12 hfree' (ready_mono hr (Ne.symm hji)) (by simp only [stepAt, hi]; exact h4) (by rw [Array.setIfInBounds_comm _ _ hji]; exact h2)

end
end Go.Vm
