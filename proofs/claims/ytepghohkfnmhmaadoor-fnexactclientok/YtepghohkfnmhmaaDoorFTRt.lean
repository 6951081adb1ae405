/-
  Terms that are right.
-/
import Derived.Test.YtepghohkfnmhmaaDoorFTOk
namespace Go.Proofs.YtepghohkfnmhmaaDoor
open Go.Vm
set_option linter.unusedVariables false
set_option linter.unusedSimpArgs false

theorem spec_l1Kids_p (n : Int) : pres RN 116 [.int n] = some (.int (arity n)) := by
  refine pres_f (rn_of_resid (n := 0) ?_)
  rw [spec_l1Kids_res]
  by_cases h1 : n = 1; · subst h1; rfl
  by_cases h2 : n = 2; · subst h2; rfl
  by_cases h3 : n = 3; · subst h3; rfl
  by_cases h4 : n = 4; · subst h4; rfl
  by_cases h5 : n = 5; · subst h5; rfl
  by_cases h6 : n = 6; · subst h6; rfl
  by_cases h7 : n = 7; · subst h7; rfl
  by_cases h8 : n = 8; · subst h8; rfl
  simp [br_if, arity, h1, h2, h3, h4, h5, h6, h7, h8]

theorem impl_arity_p (n : Int) : pres RN 122 [.int n] = some (.int (arity n)) := by
  refine pres_f (rn_of_resid (n := 0) ?_)
  rw [impl_arity_res]
  by_cases h1 : n = 1; · subst h1; rfl
  by_cases h2 : n = 2; · subst h2; rfl
  by_cases h3 : n = 3; · subst h3; rfl
  by_cases h4 : n = 4; · subst h4; rfl
  by_cases h5 : n = 5; · subst h5; rfl
  by_cases h6 : n = 6; · subst h6; rfl
  by_cases h7 : n = 7; · subst h7; rfl
  by_cases h8 : n = 8; · subst h8; rfl
  simp [br_if, arity, h1, h2, h3, h4, h5, h6, h7, h8]

theorem IndexFunc_Term (a : List Term) (t0 : Bool) (hl : a.length < 4611686018427387904) (ih : ∀ x ∈ a, RN 85 [.ag (Term.cells x)] [] = some (.bool x.formOk, [], [])) :
    RN 145 [.sl t0 .term a, .c (.fn 124 [])] [] = some (.int (idxOf (fun x : Term => !x.formOk) a), [], []) := by
  refine rn_of_resid (n := a.length + 1) ?_
  rw [slices_IndexFunc_impl_Term_impl_Term_res]
  have hloop := lp_at (P := Tryd.prog) (cfg := cfg) (T := RN) (n := a.length + 1) (d := 5) (f := 145) (r := 2) (na := 0) a (fun x : Term => !x.formOk)
    (fun i => ⟨frOf [(0, .sl t0 .term a), (1, .c (.fn 124 [])), (4, .int 0), (7, .int a.length), (8, .int i)], hpIds []⟩)
    (.ext 0, ⟨frOf [(4, .int 0)], hpIds []⟩) (fun i => (.ret, ⟨frOf [(4, .int i)], hpIds []⟩))
    (by rw [slices_IndexFunc_impl_Term_impl_Term_round2, lt_self]; rfl) rfl (fun _ => rfl)
    (fun i x hx hi => by
      have h := pres_f (ih x (List.mem_of_getElem? hx))
      simp only [Term.cells, V.ag, List.map_cons, List.map_nil] at h
      rw [slices_IndexFunc_impl_Term_impl_Term_round2, lt_t hi, idx_nat hx]
      simp only [br, qb, h, unC, fBool]
      rw [wrap_succ (by omega)]
      cases x.formOk <;> rfl)
    (a.length + 1) (by omega)
  refine (qb_run hloop).trans ?_
  unfold idxOf
  cases a.findIdx? (fun x : Term => !x.formOk) <;> rfl

theorem ContainsFunc_Term (a : List Term) (t0 : Bool) (hl : a.length < 4611686018427387904) (ih : ∀ x ∈ a, RN 85 [.ag (Term.cells x)] [] = some (.bool x.formOk, [], [])) :
    RN 123 [.sl t0 .term a, .c (.fn 124 [])] [] = some (.bool (a.any fun x : Term => !x.formOk), [], []) := by
  refine rn_of_resid (n := 0) ?_
  rw [slices_ContainsFunc_impl_Term_impl_Term_res, pres_f (IndexFunc_Term a false hl ih)]
  simp only [qb, unC, fInt, idxOf_ge]

theorem kids_two {t : Term} (ha : arity t.op = (t.kids.length : Int)) (h5 : t.op = 5) : ∃ x y, t.kids = [x, y] := by
  rw [h5] at ha
  have h2 : t.kids.length = 2 := by
    have : arity 5 = 2 := rfl
    omega
  match hk : t.kids, h2 with
  | [x, y], _ => exact ⟨x, y, rfl⟩

theorem impl_formOk_rn : ∀ t : Term, t.cost < 4611686018427387904 → RN 85 [.ag (Term.cells t)] [] = some (.bool t.formOk, [], []) := by
  refine Term.ind ?_
  intro t ih hc
  rw [Term.cost_eq] at hc
  have hl := Term.costs_len t.kids
  have hk := pres_f (ContainsFunc_Term t.kids false (by omega) fun x hx => ih x hx (by have := Term.costs_mem hx; omega))
  have hany : (t.kids.any fun x : Term => !x.formOk) = !t.kids.all Term.formOk := by rw [List.all_eq_not_any_not]; simp
  refine rn_of_resid (n := 0) ?_
  rw [impl_formOk_res, Term.formOk_eq, Term.formOks_all]
  simp only [impl_arity_p, hk, qb, unC, fBool, fInt, hany, br_if, beq_bytes]
  unfold formOk1
  by_cases ha : (t.kids.length : Int) = arity t.op
  · simp only [ha, bne_self_eq_false, Bool.false_eq_true, if_false, decide_true, Bool.true_and]
    cases hall : t.kids.all Term.formOk with
    | false => simp
    | true =>
      simp only [Bool.not_true, Bool.false_eq_true, if_false, Bool.and_true, beq_iff_eq]
      by_cases h1 : t.op = 1
      · simp only [h1, if_true, impl_in_p, qb, unC, fBool]
        cases (decide (0 ≤ t.n) && decide (t.n ≤ 1000000)) <;> simp
      · simp only [h1, if_false]
        by_cases h2 : t.op = 2
        · simp only [h2, if_true]
          by_cases hn : t.n = 0 <;> simp [hn]
          all_goals omega
        · simp only [h2, if_false]
          by_cases h5 : t.op = 5
          · obtain ⟨x, y, hxy⟩ := kids_two ha.symm h5
            have hb := pres_f (impl_Before_rn y (by have := Term.costs_mem (l := t.kids) (x := y) (by simp [hxy]); omega) x)
            simp only [Term.cells, V.ag, List.map_cons, List.map_nil] at hb
            simp only [h5, if_true, hxy]
            rw [show idx [x, y] 1 = some y from rfl, show idx [x, y] 0 = some x from rfl]
            simp only [hb, qb, unC, fBool, List.getD_cons_succ, List.getD_cons_zero]
            by_cases hn : t.n = 0 <;> by_cases hs : t.s = ⟨#[]⟩ <;> simp [hn, hs]
          · simp only [h5, if_false]
            by_cases hn : t.n = 0 <;> simp [hn]
  · have hb : ((t.kids.length : Int) != arity t.op) = true := by simpa using ha
    simp [hb, ha]

theorem spec_l1Right_rn : ∀ t : Term, t.cost < 4611686018427387904 → RN 82 [.ag (Term.cells t)] [] = some (.bool t.formOk, [], []) := by
  refine Term.ind ?_
  intro t ih hc
  rw [Term.cost_eq] at hc
  have hl := Term.costs_len t.kids
  refine rn_of_resid (n := t.kids.length + 1) ?_
  rw [spec_l1Right_res, formOk_ref2]
  have hloop := lp_any (P := Tryd.prog) (cfg := cfg) (T := RN) (n := t.kids.length + 1) (d := 5) (f := 82) (r := 4) (na := 0) t.kids (fun x : Term => !x.formOk)
    (fun i => ⟨frOf [(1, .c (.bx (.own 1) 0)), (2, .bool false), (3, .int i)], hpIds [(.own 1, .box ((Term.cells t).map C.f))]⟩)
    (.ext 0, ⟨frOf [(1, .c (.bx (.own 1) 0)), (2, .bool false)], hpIds [(.own 1, .box ((Term.cells t).map C.f))]⟩) (.ret, ⟨frOf [(1, .c (.bx (.own 1) 0)), (2, .bool false)], hpIds [(.own 1, .box ((Term.cells t).map C.f))]⟩)
    (by rw [spec_l1Right_round4, lt_self]; rfl) rfl rfl
    (fun i x hx hi => by
      have hm := List.mem_of_getElem? hx
      have h := pres_f (ih x hm (by have := Term.costs_mem hm; omega))
      simp only [Term.cells, V.ag, List.map_cons, List.map_nil] at h
      rw [spec_l1Right_round4, lt_t hi, idx_nat hx]
      simp only [br, qb, h, unC, fBool]
      rw [wrap_succ (by omega)]
      cases x.formOk <;> rfl)
    (t.kids.length + 1) (by omega)
  have hany : (t.kids.any fun x : Term => !x.formOk) = !t.kids.all Term.formOk := by rw [List.all_eq_not_any_not]; simp
  rw [hany] at hloop
  simp only [Term.cells, List.map_cons, List.map_nil] at hloop
  simp only [spec_l1Kids_p, spec_l1In_p, qb_s, unC, fBool, fInt, beq_bytes]
  cases ha : (arity t.op != (t.kids.length : Int)) with
  | true => simp only [br, Bool.not_true, Bool.false_and]
  | false =>
    cases hr : (decide (0 ≤ t.n) && decide (t.n ≤ 1000000)) with
    | false => simp only [br_if, Bool.not_false, if_true, ite_self, Bool.and_false, Bool.false_and, Bool.false_eq_true, if_false]
    | true =>
      cases hz : decide ((t.s.size : Int) > 300) with
      | true => simp only [br_if, Bool.not_false, Bool.not_true, if_true, ite_self, Bool.and_false, Bool.false_and, Bool.false_eq_true, if_false]
      | false =>
        have hfin : ∀ (k : Ex × St → Option (V × List Vm.Obj × List Vm.Obj)), qb (lp Tryd.prog cfg RN (t.kids.length + 1) 5 82 4 0 (t.kids.length + 1)
          (St.mk (frOf [(1, .c (.bx (.own 1) 0)), (2, .bool false), (3, .int 0)]) (hpIds [(.own 1, .box [.f (.int t.op), .f (.int t.n), .f (.str t.s), .f (.sl false .term t.kids)])]))) k = k _ := fun k => qb_run hloop
        cases c1 : (t.op != 1) <;> cases c2 : (t.op != 2) <;> cases c3 : (t.n != 0) <;> cases c4 : decide (t.s = ⟨#[]⟩) <;>
          simp only [br, Bool.not_true, Bool.not_false, Bool.true_and, Bool.and_true, Bool.false_and, Bool.and_false, Bool.true_or, Bool.or_true, Bool.false_or, Bool.or_false]
        all_goals
          rw [hfin]
          cases hall : t.kids.all Term.formOk with
          | false => rfl
          | true =>
            refine Eq.trans (b := br (t.op != 5) (some (.bool true, [], [])) (qb (idx t.kids 1) fun y => qb (idx t.kids 0) fun z => qb (pres RN 117 [.ag (Term.cells y), .ag (Term.cells z)]) fun v => qb (qb (unC v) fun y => fBool y) fun b => some (.bool !b, [], []))) rfl ?_
            cases c5 : (t.op != 5) with
            | true => rfl
            | false =>
              obtain ⟨x, y, hxy⟩ := kids_two (t := t) (by simpa using ha) (by simpa using c5)
              have hb := pres_f (spec_Before_rn y (by have := Term.costs_mem (l := t.kids) (x := y) (by simp [hxy]); omega) x)
              rw [hxy, show idx [x, y] 1 = some y from rfl, show idx [x, y] 0 = some x from rfl]
              simp only [br, qb, hb, unC, fBool, List.getD_cons_succ, List.getD_cons_zero, Bool.false_or, Bool.true_and]

theorem spec_TermOk_rn (t : Term) (hc : t.cost < 4611686018427387900) : RN 34 [.ag (Term.cells t)] [] = some (.bool t.ok, [], []) := by
  have h0 := Term.size_le t
  have h1 := Term.costs_len t.kids
  have h2 := Term.cost_eq t
  have hs := pres_f (spec_TermSize_rn t (by omega) (by omega))
  have hr := pres_f (spec_l1Right_rn t (by omega))
  simp only [Term.cells, V.ag, List.map_cons, List.map_nil] at hs hr
  refine rn_of_resid (n := 0) ?_
  rw [spec_TermOk_res]
  unfold Term.ok
  simp only [hs, hr, qb, unC, fBool, fInt]
  by_cases h : t.size ≤ 200
  · rw [show decide ((t.size : Int) ≤ 200) = true by simp; omega]
    simp [br, h]
  · rw [show decide ((t.size : Int) ≤ 200) = false by simp; omega]
    simp [br, h]

theorem impl_TermOk_rn (t : Term) (hc : t.cost < 4611686018427387900) : RN 39 [.ag (Term.cells t)] [] = some (.bool t.ok, [], []) := by
  have h0 := Term.size_le t
  have h1 := Term.costs_len t.kids
  have h2 := Term.cost_eq t
  have hs := pres_f (impl_TermSize_rn t (by omega) (by omega))
  have hr := pres_f (impl_formOk_rn t (by omega))
  simp only [Term.cells, V.ag, List.map_cons, List.map_nil] at hs hr
  refine rn_of_resid (n := 0) ?_
  rw [impl_TermOk_res]
  unfold Term.ok
  simp only [hs, hr, qb, unC, fBool, fInt]
  by_cases h : t.size ≤ 200
  · rw [show decide ((t.size : Int) ≤ 200) = true by simp; omega]
    simp [br, h]
  · rw [show decide ((t.size : Int) ≤ 200) = false by simp; omega]
    simp [br, h]

end Go.Proofs.YtepghohkfnmhmaaDoor
