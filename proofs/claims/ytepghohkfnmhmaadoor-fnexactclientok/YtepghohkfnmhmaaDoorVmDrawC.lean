/-
  A region.
-/
import Derived.Test.YtepghohkfnmhmaaDoorVmDrawB
namespace Go.Vm
variable {G : Gl}
set_option linter.unusedVariables false
set_option linter.unusedSimpArgs false

section
variable {P : Program} {cfg : Cfg} {T Ti : CallSem} {me nt : Nat} {U : Nat → Prop} {h0 : Hp} {loc0 : Loc} {w0 : World} {fr fr' : Fr} {h h' : Hp} {a : Act} {w : World} {ops : Array Oper} {dl : List Id}

theorem all_zipIdx {α : Type} {l : List α} {p : α × Nat → Bool} (h : l.zipIdx.all p = true) {i : Nat} {x : α} (hi : l[i]? = some x) : p (x, i) = true := by
  rw [List.all_eq_true] at h
  exact h _ (List.mk_mem_zipIdx_iff_getElem?.2 hi)

theorem drawOk_spec (hd : drawOk cfg me ops = true) {i : Nat} {o : Oper} (hi : ops[i]? = some o) : freeAt cfg me ops i o = true ∧ ∀ e ∈ o.after, Region.binds .any e = true → e.on < i := by
  have h1 := all_zipIdx hd (i := i) (x := o) (by simpa using hi)
  simp only [Bool.and_eq_true] at h1
  refine ⟨h1.1.2, fun e he hb => ?_⟩
  have h2 := h1.2
  rw [List.all_eq_true] at h2
  have := h2 e (by simpa using he)
  rw [hb] at this
  simp [Nat.blt] at this
  omega

theorem freeAt_spec {i : Nat} {o : Oper} (hf : freeAt cfg me ops i o = true) {j : Nat} {oj : Oper} (hj : ops[j]? = some oj) (hlt : i < j) (hw : ∀ e ∈ oj.after, Region.binds .any e = true → e.on ≠ i) :
    o.apart ops oj = true ∧ compat (clsIn cfg me ops.toList i o) (clsIn cfg me ops.toList j oj) = true := by
  have h1 := all_zipIdx hf (i := j) (x := oj) (by simpa using hj)
  simp only [Bool.or_eq_true, Bool.and_eq_true] at h1
  rcases h1 with (h1 | h1) | h1
  · have := Nat.le_of_ble_eq_true h1; omega
  · exfalso
    unfold waitsFor at h1
    rw [List.any_eq_true] at h1
    obtain ⟨e, he, hb⟩ := h1
    simp only [Bool.and_eq_true] at hb
    exact hw e (by simpa using he) hb.1 (Nat.eq_of_beq_eq_true hb.2)
  · exact h1

def Lk (n k : Nat) (listed : Array Bool) : Prop := listed.size = n ∧ ∀ j, j < n → listed[j]? = some (decide (j < k))

theorem Lk.set {n k : Nat} {listed : Array Bool} (hl : Lk n k listed) (hk : k < n) : Lk n (k + 1) (listed.setIfInBounds k true) := by
  refine ⟨by simp [hl.1], fun j hj => ?_⟩
  by_cases hjk : j = k
  · subst hjk
    rw [Array.getElem?_setIfInBounds_self_of_lt (by rw [hl.1]; exact hj)]
    simp
  · rw [Array.getElem?_setIfInBounds_ne (Ne.symm hjk), hl.2 j hj]
    congr 1
    by_cases h : j < k
    · simp [h]; omega
    · simp [h]; omega

theorem Lk.un {n k : Nat} {listed : Array Bool} (hl : Lk n k listed) {j : Nat} : listed.getD j true = false ↔ k ≤ j ∧ j < n := by
  rw [Array.getD_eq_getD_getElem?]
  rcases Nat.lt_or_ge j n with h | h
  · rw [hl.2 j h]
    simp
    omega
  · rw [Array.getElem?_eq_none (by rw [hl.1]; exact h)]
    simp
    omega

theorem Lk.done {n k : Nat} {listed : Array Bool} (hl : Lk n k listed) {j : Nat} (hj : j < k) (hn : j < n) : listed.getD j false = true := by
  rw [Array.getD_eq_getD_getElem?, hl.2 j hn]
  simp [hj]

theorem anyD_lex {Q : SD → Prop} (hd : drawOk cfg me ops = true) {s' : SD} (hQ : Q s') : ∀ (l : List Oper) (k : Nat) (listed : Array Bool) (s : SD), (∀ j, l[j]? = ops[k + j]?) → Lk ops.size k listed →
    runD cfg T Ti me nt dl ops.toList k l s = some s' → anyD cfg T Ti me nt dl ops Q l.length listed s
  | [], k, listed, s, hl, hL, hr => by
    simp [runD] at hr; subst hr
    refine ⟨?_, hQ⟩
    have hk : ops.size ≤ k := by
      rcases Nat.lt_or_ge k ops.size with h | h
      · have := hl 0
        simp [h] at this
      · exact h
    cases hrd : Region.ready .any ops listed with
    | nil => rfl
    | cons j js =>
      have hj : j ∈ Region.ready .any ops listed := by rw [hrd]; exact List.mem_cons_self ..
      have := hL.un.1 (mem_ready.1 hj).1
      omega
  | o :: l, k, listed, s, hl, hL, hr => by
    have h0 : ops[k]? = some o := by simpa using (hl 0).symm
    have hk : k < ops.size := (Array.getElem?_eq_some_iff.1 h0).1
    simp only [runD, Option.bind_eq_some_iff] at hr
    obtain ⟨s1, h1, hr⟩ := hr
    obtain ⟨hfree, hbefore⟩ := drawOk_spec hd h0
    refine anyD_first h0 l.length listed s s1 ?_ ?_ (by simp only [stepAt, h0]; exact h1)
      (anyD_lex hd hQ l (k + 1) _ s1 (fun j => by have := hl (j + 1); simpa [Nat.add_assoc, Nat.add_comm 1 j] using this) (hL.set hk) hr)
    · intro j oj hj hne hun hno
      have := hL.un.1 hun
      exact freeAt_spec hfree hj (by omega) hno
    · rw [mem_ready]
      refine ⟨hL.un.2 ⟨Nat.le_refl _, hk⟩, o, h0, fun e he hb => ?_⟩
      have := hbefore e he hb
      exact hL.done this (by omega)

theorem applyE_le {e : Eff} (hq : quietE e = true) (he : applyE h e = some h') : HLe h h' := by
  cases e with
  | heap => simp [quietE] at hq
  | none => simp [applyE] at he; subst he; exact fun i o ho => ho
  | put j x =>
    simp only [applyE] at he
    cases hj : h j with
    | some y => rw [hj] at he; cases he
    | none =>
      rw [hj] at he
      simp at he
      subst he
      intro i o ho
      rw [hput_ne]
      · exact ho
      · rintro rfl
        rw [hj] at ho
        cases ho

theorem HLe.trans {a b c : Hp} (h1 : HLe a b) (h2 : HLe b c) : HLe a c := fun i o ho => h2 i o (h1 i o ho)

theorem nextHr_quiet {c : Cls} {op : Op} {hr : Hp} (hc : c.isW = false) : nextHr c fr op h' hr = hr := by
  cases c <;> simp [Cls.isW] at hc <;> rfl

/-- A store writes one object. -/
theorem st_at {T : TypeId} {x v : V} (hs : st cfg h T x v = some h') : ∃ id ob, addrId x = some id ∧ h' = hput h id ob := by
  unfold st at hs
  simp only [Option.bind_eq_some_iff] at hs
  obtain ⟨i, _, vs, _, hs⟩ := hs
  cases hb : Nat.beq vs.length i.size with
  | false => rw [hb] at hs; simp at hs
  | true =>
    rw [hb] at hs
    simp only [cond_true] at hs
    split at hs
    · rename_i id off
      rw [Option.bind_eq_some_iff] at hs
      obtain ⟨ob, hob, hs⟩ := hs
      cases ob with
      | box cs =>
        simp only at hs
        cases hc : (Nat.ble (off + i.size) cs.length && vs.all defC) with
        | false => rw [hc] at hs; simp at hs
        | true => rw [hc] at hs; simp at hs; exact ⟨id, _, rfl, hs.symm⟩
      | _ => cases hs
    · rename_i id k j off
      rw [Option.bind_eq_some_iff] at hs
      obtain ⟨ob, hob, hs⟩ := hs
      split at hs
      · split at hs
        · rw [Option.bind_eq_some_iff] at hs
          obtain ⟨x, _, hs⟩ := hs
          cases hc : Nat.ble (off + i.size) (szOf k) with
          | false => rw [hc] at hs; simp at hs
          | true =>
            rw [hc] at hs
            simp only [cond_true, Option.bind_eq_some_iff, Option.some.injEq] at hs
            obtain ⟨fs, _, y, _, hs⟩ := hs
            exact ⟨id, _, rfl, hs.symm⟩
        · cases hs
      · cases hs
    · cases hs

theorem nextHr_le {c : Cls} {o : Oper} {hr : Hp} {v : V} {e : Eff} (hc : c.isW = true) (hok : okD dl c fr o.op = true) (ha : aop cfg T Ti me fr h o.dst o.type o.op = some (v, e)) (he : applyE h e = some h') (hle : HLe hr h) : HLe (nextHr c fr o.op h' hr) h' := by
  cases c with
  | writes => exact fun i o ho => ho
  | lstore =>
    simp only [nextHr]
    simp only [okD] at hok
    cases hop : o.op <;> rw [hop] at ha hok <;> simp only [stId] at hok ⊢
    case store t x y =>
      simp only [aop, Option.bind_eq_some_iff, Option.map_eq_some_iff] at ha
      obtain ⟨a1, hev, v1, _, h1, hs, hve⟩ := ha
      cases hve
      simp [applyE] at he
      subst he
      obtain ⟨id, ob, hid, rfl⟩ := st_at hs
      simp only [hev, Option.bind_some, hid, hput_self]
      intro i o ho
      by_cases hi : i = id
      · subst hi; rw [hput_self] at ho ⊢; exact ho
      · rw [hput_ne _ _ hi] at ho ⊢; exact hle i o ho
    all_goals cases hok
  | _ => cases hc

/-- Whatever order is drawn. -/
theorem any_wp (ht : TabOK P cfg) (hT : TOK G P T) (hTi : TOK G P Ti) {Q : SD → Prop} {Q' : Exit → Act → World → Prop} (hQ : ∀ s a w, Rp G U h0 loc0 w0 nt s.fr s.h a w → Q s → Q' .normal a w) : ∀ (fuel : Nat) (listed : Array Bool) (s : SD) (a : Act) (w : World),
    Rp G U h0 loc0 w0 nt s.fr s.h a w → HLe s.hr s.h → anyD cfg T Ti me nt dl ops Q fuel listed s → wpAny P .any ops Q' fuel listed a w
  | 0, _, s, a, w, hr, _, h => ⟨h.1, hQ s a w hr h.2⟩
  | fuel + 1, listed, s, a, w, hr, hle, h => by
    refine ⟨fun h0 => hQ s a w hr (h.1 h0), fun i hi => ?_⟩
    obtain ⟨s1, h1, h2⟩ := h.2 i hi
    unfold wpOp
    unfold stepAt at h1
    cases ho : ops[i]? with
    | none =>
      rw [ho] at h1
      simp at h1
      subst h1
      exact any_wp ht hT hTi hQ fuel _ _ _ _ hr hle h2
    | some o =>
      rw [ho] at h1
      simp only at h1 ⊢
      simp only [stepD, Option.bind_eq_some_iff] at h1
      obtain ⟨g, hg, h1⟩ := h1
      have hwant : Region.wanted o (yielded ops a.tmps) = g := by
        obtain ⟨loc, hw, hf, _⟩ := hr
        exact guardA_ok hf hg
      simp only [hwant]
      cases g with
      | false =>
        simp only [cond_false, Option.bind_eq_some_iff, Option.some.injEq] at h1
        obtain ⟨fr', hp, rfl⟩ := h1
        exact any_wp ht hT hTi hQ fuel _ ⟨fr', s.h, s.hr⟩ _ _ (skip_wp hr hp) hle h2
      | true =>
        simp only [cond_true] at h1
        refine .inl ?_
        cases hok : okD dl (clsIn cfg me ops.toList i o) s.fr o.op with
        | false => rw [hok] at h1; simp at h1
        | true =>
          rw [hok] at h1
          simp only [cond_true, Option.bind_eq_some_iff] at h1
          obtain ⟨⟨v, e⟩, ha, h1⟩ := h1
          cases hw : (clsIn cfg me ops.toList i o).isW with
          | false =>
            rw [hw] at ha h1
            simp only [cond_false, Bool.false_or] at ha h1
            cases hq : quietE e with
            | false => rw [hq] at h1; simp at h1
            | true =>
              rw [hq] at h1
              simp only [cond_true, Option.bind_eq_some_iff, Option.some.injEq] at h1
              obtain ⟨h', he, fr', hp, rfl⟩ := h1
              rw [nextHr_quiet hw] at h2
              exact op_wp ht hT hTi hr (aop_mono hle ha hq) he hp fun a' w' hr' => any_wp ht hT hTi hQ fuel _ ⟨fr', h', s.hr⟩ _ _ hr' (hle.trans (applyE_le hq he)) h2
          | true =>
            rw [hw] at ha h1
            simp only [cond_true, Bool.true_or, Option.bind_eq_some_iff, Option.some.injEq] at ha h1
            obtain ⟨h', he, fr', hp, rfl⟩ := h1
            exact op_wp ht hT hTi hr ha he hp fun a' w' hr' => any_wp ht hT hTi hQ fuel _ ⟨fr', h', _⟩ _ _ hr' (nextHr_le hw hok ha he hle) h2

theorem Rp.drew (hr : Rp G U h0 loc0 w0 nt fr h a w) : Rp G U h0 loc0 w0 nt fr h a { w with drawn := w.drawn + 1 } := by
  obtain ⟨loc, hw, hf, hex, hn, hd⟩ := hr
  exact ⟨loc, hw.drew, hf.ext (Ext.drew U h loc w), hex.trans (Ext.drew U h loc w), hn, hd⟩

theorem region_wp (hm : P.follows .mixedOrders = true) (ht : TabOK P cfg) (hT : TOK G P T) (hTi : TOK G P Ti) {Q : Exit → Act → World → Prop} {s s' : St} {id : Nat} {draw : Bool} (hr : Rp G U h0 loc0 w0 nt s.fr s.h a w)
    (hs : region cfg T Ti me nt id ops draw s = some s') (hQ : ∀ a' w', Rp G U h0 loc0 w0 nt s'.fr s'.h a' w' → Q .normal a' w') : (Code.region id ops draw).wp P Q a w := by
  unfold region at hs
  cases draw with
  | false =>
    simp only [cond_false] at hs
    exact wp_region_list (ops_wp ht hT hTi _ _ _ _ hr hs hQ)
  | true =>
    simp only [cond_true] at hs
    cases hd : drawOk cfg me ops with
    | false => rw [hd] at hs; simp at hs
    | true =>
      rw [hd] at hs
      simp only [cond_true, Option.map_eq_some_iff] at hs
      obtain ⟨s1, h1, rfl⟩ := hs
      refine wp_region_any hm ?_
      have := anyD_lex (Q := fun s => s = s1) hd rfl ops.toList 0 (Array.replicate ops.size false) ⟨s.fr, s.h, s.h⟩ (by simp) ⟨by simp, fun j hj => by simp [hj]⟩ h1
      rw [Array.length_toList] at this
      exact any_wp ht hT hTi (fun s2 a w hr2 he => by subst he; exact hQ a w hr2) _ _ _ _ _ hr.drew (fun i o ho => ho) this

end
end Go.Vm
