/-
  Terms that are right.
-/
import Derived.Test.YtgegmojoakkohaaGreatDoorMeTm
namespace Go.Proofs.YtgegmojoakkohaaGreatDoor
open Go.Vm
set_option linter.unusedVariables false
set_option linter.unusedSimpArgs false

theorem spec_l1Kids_t (n : Int) : spec_l1Kids_T n = some (arity n) := by
  refine spec_l1Kids_of 0 n ?_
  unfold spec_l1Kids_R
  by_cases h1 : n = 1; · subst h1; rfl
  by_cases h2 : n = 2; · subst h2; rfl
  by_cases h3 : n = 3; · subst h3; rfl
  by_cases h4 : n = 4; · subst h4; rfl
  by_cases h5 : n = 5; · subst h5; rfl
  by_cases h6 : n = 6; · subst h6; rfl
  by_cases h7 : n = 7; · subst h7; rfl
  by_cases h8 : n = 8; · subst h8; rfl
  simp [br_if, arity, h1, h2, h3, h4, h5, h6, h7, h8]

theorem impl_arity_t (n : Int) : impl_arity_T n = some (arity n) := by
  refine impl_arity_of 0 n ?_
  unfold impl_arity_R
  by_cases h1 : n = 1; · subst h1; rfl
  by_cases h2 : n = 2; · subst h2; rfl
  by_cases h3 : n = 3; · subst h3; rfl
  by_cases h4 : n = 4; · subst h4; rfl
  by_cases h5 : n = 5; · subst h5; rfl
  by_cases h6 : n = 6; · subst h6; rfl
  by_cases h7 : n = 7; · subst h7; rfl
  by_cases h8 : n = 8; · subst h8; rfl
  simp [br_if, arity, h1, h2, h3, h4, h5, h6, h7, h8]

theorem kids_two {t : Term} (ha : arity t.op = (t.kids.length : Int)) (h5 : t.op = 5) : ∃ x y, t.kids = [x, y] := by
  rw [h5] at ha
  have h2 : t.kids.length = 2 := by
    have : arity 5 = 2 := rfl
    omega
  match hk : t.kids, h2 with
  | [x, y], _ => exact ⟨x, y, rfl⟩

theorem IndexFunc_formOk_1_t (a : List Term)  (hl : a.length < 4611686018427387904) (ih : ∀ x ∈ a, impl_formOk_T x = some x.formOk) : slices_IndexFunc_impl_Term_impl_Term_T a (.c (.fn 140 [])) = some (idxOf (fun x : Term => !x.formOk) a) := by
  refine IndexFunc_formOk_1_of (a.length + 1) a  ?_
  unfold IndexFunc_formOk_1_R
  have hloop := lp_at (P := Tryz.prog) (cfg := cfg) (T := RN) (n := a.length + 1) (d := 5) (f := 159) (r := 2) (na := 0) a (fun x : Term => !x.formOk) (fun i => IndexFunc_formOk_1_S2 false a  0 a.length i) (.ext 0, IndexFunc_formOk_1_O2 0) (fun i => (.ret, IndexFunc_formOk_1_O2 i))
    (by rw [IndexFunc_formOk_1_round2, lt_self]; rfl) rfl (fun _ => rfl)
    (fun i x hx hi => by
      have hm := List.mem_of_getElem? hx
      rw [IndexFunc_formOk_1_round2, lt_t hi, idx_nat hx]
      simp only [br_t, qb_s, ih x hm]
      rw [wrap_succ (by omega)]
      cases x.formOk <;> rfl) (a.length + 1) (by omega)
  unfold idxOf
  cases h : a.findIdx? (fun x : Term => !x.formOk) with
  | none => rw [h] at hloop; exact (qb_run (IndexFunc_formOk_1_L2_of hloop)).trans rfl
  | some i => rw [h] at hloop; exact (qb_run (IndexFunc_formOk_1_L2_of hloop)).trans rfl

theorem ContainsFunc_formOk_1_t (a : List Term)  (hl : a.length < 4611686018427387904) (ih : ∀ x ∈ a, impl_formOk_T x = some x.formOk) : slices_ContainsFunc_impl_Term_impl_Term_T a (.c (.fn 140 [])) = some (a.any (fun x : Term => !x.formOk)) := by
  refine ContainsFunc_formOk_1_of 0 a  ?_
  unfold ContainsFunc_formOk_1_R
  rw [IndexFunc_formOk_1_t a  hl ih, qb_s, idxOf_ge]


theorem impl_formOk_t : ∀ t : Term, t.cost < 4611686018427387904 → impl_formOk_T t = some t.formOk := by
  refine Term.ind ?_
  intro t ih hc
  rw [Term.cost_eq] at hc
  have hl := Term.costs_len t.kids
  have hk := ContainsFunc_formOk_1_t t.kids (by omega) fun x hx => ih x hx (by have := Term.costs_mem hx; omega)
  have hany : (t.kids.any fun x : Term => !x.formOk) = !t.kids.all Term.formOk := by rw [List.all_eq_not_any_not]; simp
  refine impl_formOk_of 0 t ?_
  unfold impl_formOk_R
  rw [Term.formOk_eq, Term.formOks_all]
  simp only [impl_arity_t, hk, qb_s, hany, br_if, beq_bytes, impl_in_t, bne_int, beq_int]
  unfold formOk1
  by_cases ha : (t.kids.length : Int) = arity t.op
  · simp only [ha, decide_true, Bool.not_true, Bool.false_eq_true, if_false, Bool.true_and]
    cases hall : t.kids.all Term.formOk with
    | false => simp
    | true =>
      simp only [Bool.not_true, Bool.false_eq_true, if_false, Bool.and_true, decide_eq_true_eq]
      by_cases h1 : t.op = 1
      · simp only [h1, if_true]
        cases (decide (0 ≤ t.n) && decide (t.n ≤ 1000000)) <;> simp
      · simp only [h1, if_false]
        by_cases h2 : t.op = 2
        · simp only [h2, if_true]
          by_cases hn : t.n = 0 <;> simp [hn]
          all_goals omega
        · simp only [h2, if_false]
          by_cases h5 : t.op = 5
          · obtain ⟨x, y, hxy⟩ := kids_two ha.symm h5
            have hb := impl_Before_t y (by have := Term.costs_mem (l := t.kids) (x := y) (by simp [hxy]); omega) x
            simp only [h5, if_true, hxy]
            rw [show idx [x, y] 1 = some y from rfl, show idx [x, y] 0 = some x from rfl]
            simp only [hb, qb_s, List.getD_cons_succ, List.getD_cons_zero]
            by_cases hn : t.n = 0 <;> by_cases hs : t.s = ⟨#[]⟩ <;> simp [hn, hs]
          · simp only [h5, if_false]
            by_cases hn : t.n = 0 <;> simp [hn]
  · simp [ha]

theorem spec_l1Right_t : ∀ t : Term, t.cost < 4611686018427387904 → spec_l1Right_T t = some t.formOk := by
  refine Term.ind ?_
  intro t ih hc
  rw [Term.cost_eq] at hc
  have hl := Term.costs_len t.kids
  have hloop : spec_l1Right_L4 (t.kids.length + 1) (t.kids.length + 1) false 0 t = _ := spec_l1Right_L4_if (lp_all t.kids Term.formOk (fun i => spec_l1Right_S4 false i t) (.ext 0, spec_l1Right_O4 false t) (.ret, spec_l1Right_O4 false t)
    (by rw [spec_l1Right_round4, lt_self]; rfl) rfl rfl
    (fun i x hx hi => by
      have hm := List.mem_of_getElem? hx
      rw [spec_l1Right_round4, lt_t hi, idx_nat hx]
      simp only [br_t, qb_s, ih x hm (by have := Term.costs_mem hm; omega)]
      rw [wrap_succ (by omega)]
      cases x.formOk <;> rfl)
    (t.kids.length + 1) (by omega))
  refine spec_l1Right_of (t.kids.length + 1) t ?_
  unfold spec_l1Right_R
  rw [formOk_ref2]
  simp only [spec_l1Kids_t, spec_l1In_t, hloop, qb_s, beq_bytes]
  cases ha : (arity t.op != (t.kids.length : Int)) with
  | true => simp only [br, Bool.not_true, Bool.false_and]
  | false =>
    have hkid : t.op = 5 → ∃ x y, t.kids = [x, y] := fun h5 => kids_two (by simpa using ha) h5
    have hfin : (br (!t.op != 5) (some true) (qb (idx t.kids 1) fun y => qb (idx t.kids 0) fun y_1 => qb (spec_Before_T y y_1) fun x => some !x) : Option Bool) = some (t.op != 5 || !Term.before (t.kids.getD 1 zeroT) (t.kids.getD 0 zeroT)) ∨ True := .inr trivial
    cases hr : (decide (0 ≤ t.n) && decide (t.n ≤ 1000000)) with
    | false => simp only [br_if, Bool.not_false, if_true, ite_self, Bool.and_false, Bool.false_and, Bool.false_eq_true, if_false]
    | true =>
      cases hz : decide ((t.s.size : Int) > 300) with
      | true => simp only [br_if, Bool.not_false, Bool.not_true, if_true, ite_self, Bool.and_false, Bool.false_and, Bool.false_eq_true, if_false]
      | false =>
        cases c1 : (t.op != 1) <;> cases c2 : (t.op != 2) <;> cases c3 : (t.n != 0) <;> cases c4 : decide (t.s = ⟨#[]⟩) <;>
          simp only [br_t, br_f, Bool.not_true, Bool.not_false, Bool.true_and, Bool.and_true, Bool.false_and, Bool.and_false, Bool.true_or, Bool.or_true, Bool.false_or, Bool.or_false]
        all_goals
          cases hall : t.kids.all Term.formOk with
          | false => rfl
          | true =>
            simp only [if_true, isRetE_e, isExt_e, br_t, br_f, Bool.true_and]
            cases c5 : (t.op != 5) with
            | true => rfl
            | false =>
              obtain ⟨x, y, hxy⟩ := hkid (by simpa using c5)
              have hb := spec_Before_t y (by have := Term.costs_mem (l := t.kids) (x := y) (by simp [hxy]); omega) x
              rw [hxy, show idx [x, y] 1 = some y from rfl, show idx [x, y] 0 = some x from rfl]
              simp only [br_f, qb_s, hb, List.getD_cons_succ, List.getD_cons_zero, Bool.false_or]

theorem spec_TermOk_t (t : Term) (hc : t.cost < 4611686018427387900) : spec_TermOk_T t = some t.ok := by
  have h0 := Term.size_le t
  refine spec_TermOk_of 0 t ?_
  unfold spec_TermOk_R Term.ok
  simp only [spec_TermSize_t t (by omega), spec_l1Right_t t (by omega), qb_s]
  by_cases h : t.size ≤ 200
  · rw [show decide ((t.size : Int) ≤ 200) = true by simp; omega]
    simp [br, h]
  · rw [show decide ((t.size : Int) ≤ 200) = false by simp; omega]
    simp [br, h]

theorem impl_TermOk_t (t : Term) (hc : t.cost < 4611686018427387900) : impl_TermOk_T t = some t.ok := by
  have h0 := Term.size_le t
  refine impl_TermOk_of 0 t ?_
  unfold impl_TermOk_R Term.ok
  simp only [impl_TermSize_t t (by omega), impl_formOk_t t (by omega), qb_s]
  by_cases h : t.size ≤ 200
  · rw [show decide ((t.size : Int) ≤ 200) = true by simp; omega]
    simp [br, h]
  · rw [show decide ((t.size : Int) ≤ 200) = false by simp; omega]
    simp [br, h]

theorem impl_noTerm_t (t : Term) (hc : t.cost < 4611686018427387900) : impl_noTerm_T t = some (decide (t = zeroT)) := by
  refine impl_noTerm_of 0 t ?_
  unfold impl_noTerm_R
  exact (qb_run (impl_Same_t t (by omega) zeroT)).trans rfl

end Go.Proofs.YtgegmojoakkohaaGreatDoor
