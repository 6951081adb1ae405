/-
  Terms: size, order, what is right.
-/
import Derived.Test.YtepghohkfnmhmaaDoorFIn
namespace Go.Proofs.YtepghohkfnmhmaaDoor
open Go.Vm
set_option linter.unusedVariables false
set_option linter.unusedSimpArgs false

/-! ### Size -/

theorem spec_TermSize_rn : ∀ t : Term, t.size < 4611686018427387904 → t.kids.length < 4611686018427387904 → RN 81 [.ag (Term.cells t)] [] = some (.int t.size, [], []) := by
  refine Term.ind ?_
  intro t ih hc hl
  rw [Term.size_eq, Term.sizes_sum] at hc ⊢
  refine rn_of_resid (n := t.kids.length + 1) ?_
  rw [spec_TermSize_res]
  have hloop := lp_sum (P := Tryd.prog) (cfg := cfg) (T := RN) (n := t.kids.length + 1) (d := 5) (f := 81) (r := 3) (na := 0) t.kids Term.size
    (fun i a => ⟨frOf [(1, .c (.bx (.own 1) 0)), (3, .int a), (4, .int i)], hpIds [(.own 1, .box ((Term.cells t).map C.f))]⟩)
    (fun a => (.ext 0, ⟨frOf [(3, .int a)], hpIds []⟩)) 4611686018427387904
    (fun a => by rw [spec_TermSize_round3, lt_self]; rfl) (fun _ => rfl)
    (fun i x a hx hi hb => by
      have hk : x.size ≤ sumC Term.size t.kids := sumC_mem _ (List.mem_of_getElem? hx)
      have hxl : x.kids.length ≤ Term.sizes x.kids := Term.len_sizes x.kids
      have hx2 := Term.size_eq x
      have h := pres_f (ih x (List.mem_of_getElem? hx) (by omega) (by omega))
      simp only [Term.cells, V.ag, List.map_cons, List.map_nil] at h
      rw [spec_TermSize_round3, lt_t hi, idx_nat hx]
      simp only [br, qb, h, unC, fInt]
      rw [wrap_succ (by omega), wrap_id (by omega) (by omega)]
      rfl)
    1 (t.kids.length + 1) (by omega) (by omega)
  refine (qb_run hloop).trans ?_
  rfl

theorem impl_TermSize_rn : ∀ t : Term, t.size < 4611686018427387904 → t.kids.length < 4611686018427387904 → RN 84 [.ag (Term.cells t)] [] = some (.int t.size, [], []) := by
  refine Term.ind ?_
  intro t ih hc hl
  rw [Term.size_eq, Term.sizes_sum] at hc ⊢
  refine rn_of_resid (n := t.kids.length + 1) ?_
  rw [impl_TermSize_res]
  have hloop := lp_sum (P := Tryd.prog) (cfg := cfg) (T := RN) (n := t.kids.length + 1) (d := 5) (f := 84) (r := 3) (na := 0) t.kids Term.size
    (fun i a => ⟨frOf [(3, .int a), (7, .sl false .term t.kids), (8, .int t.kids.length), (9, .int i)], hpIds []⟩)
    (fun a => (.ext 0, ⟨frOf [(3, .int a)], hpIds []⟩)) 4611686018427387904
    (fun a => by rw [impl_TermSize_round3, lt_self]; rfl) (fun _ => rfl)
    (fun i x a hx hi hb => by
      have hk : x.size ≤ sumC Term.size t.kids := sumC_mem _ (List.mem_of_getElem? hx)
      have hxl : x.kids.length ≤ Term.sizes x.kids := Term.len_sizes x.kids
      have hx2 := Term.size_eq x
      have h := pres_f (ih x (List.mem_of_getElem? hx) (by omega) (by omega))
      simp only [Term.cells, V.ag, List.map_cons, List.map_nil] at h
      rw [impl_TermSize_round3, lt_t hi, idx_nat hx]
      simp only [br, qb, h, unC, fInt]
      rw [wrap_succ (by omega), wrap_id (by omega) (by omega)]
      rfl)
    1 (t.kids.length + 1) (by omega) (by omega)
  refine (qb_run hloop).trans ?_
  rfl

/-! ### Same -/

theorem spec_Same_rn : ∀ a : Term, a.cost < 4611686018427387904 → ∀ b, RN 33 [.ag (Term.cells a), .ag (Term.cells b)] [] = some (.bool (decide (a = b)), [], []) := by
  refine Term.ind ?_
  intro a ih hc b
  rw [Term.cost_eq] at hc
  have hl := Term.costs_len a.kids
  refine rn_of_resid (n := a.kids.length + 1) ?_
  rw [spec_Same_res]
  by_cases hl2 : a.kids.length = b.kids.length
  · obtain ⟨e, he, hloop⟩ := lp_eq (P := Tryd.prog) (cfg := cfg) (T := RN) (n := a.kids.length + 1) (d := 5) (f := 33) (r := 4) (na := 0) a.kids b.kids hl2
      (fun i => ⟨frOf [(2, .c (.bx (.own 2) 0)), (3, .c (.bx (.own 3) 0)), (4, .bool false), (5, .int i)], hpIds [(.own 2, .box ((Term.cells a).map C.f)), (.own 3, .box ((Term.cells b).map C.f))]⟩)
      (.ext 0, ⟨frOf [(4, .bool false)], hpIds []⟩) (.ret, ⟨frOf [(4, .bool false)], hpIds []⟩)
      (by rw [spec_Same_round4, lt_self]; rfl) rfl rfl
      (fun i x y hx hy hi => by
        have h := pres_f (ih x (List.mem_of_getElem? hx) (by have := Term.costs_mem (List.mem_of_getElem? hx); omega) y)
        simp only [Term.cells, V.ag, List.map_cons, List.map_nil] at h
        rw [spec_Same_round4, lt_t hi, idx_nat hx, idx_nat hy]
        simp only [br, qb, h, unC, fBool]
        rw [wrap_succ (by omega)]
        exact ⟨fun he => by simp only [he, decide_true, Bool.not_true]; rfl, fun he => by simp only [he, decide_false, Bool.not_false]⟩)
      (a.kids.length + 1) (by omega)
    rw [show ((a.kids.length : Int) != (b.kids.length : Int)) = false by simp [hl2]]
    have hfin : ∀ (k : Ex × St → Option (V × List Vm.Obj × List Vm.Obj)), qb (lp Tryd.prog cfg RN (a.kids.length + 1) 5 33 4 0 (a.kids.length + 1)
      (St.mk (frOf [(2, .c (.bx (.own 2) 0)), (3, .c (.bx (.own 3) 0)), (4, .bool false), (5, .int 0)]) (hpIds [(.own 2, .box [.f (.int a.op), .f (.int a.n), .f (.str a.s), .f (.sl false .term a.kids)]), (.own 3, .box [.f (.int b.op), .f (.int b.n), .f (.str b.s), .f (.sl false .term b.kids)])]))) k = k (bif e then (.ext 0, ⟨frOf [(4, .bool false)], hpIds []⟩) else (.ret, ⟨frOf [(4, .bool false)], hpIds []⟩)) := fun k => qb_run hloop
    simp only [br_if, beq_bytes, hfin]
    obtain ⟨o, n, s, k⟩ := a
    obtain ⟨o', n', s', k'⟩ := b
    simp only at he
    by_cases h1 : o = o'
    · by_cases h2 : n = n'
      · by_cases h3 : s = s'
        · by_cases h4 : k = k'
          · simp only [h1, h2, h3, h4, decide_true] at he ⊢
            subst he
            simp
            rfl
          · simp only [h1, h2, h3, h4, decide_false] at he ⊢
            subst he
            simp [h4]
            rfl
        · simp [h1, h2, h3]
      · simp [h1, h2]
    · simp [h1]
  · rw [show ((a.kids.length : Int) != (b.kids.length : Int)) = true by simp; omega]
    have : ¬ a = b := fun e => hl2 (by rw [e])
    simp only [br_if, beq_bytes, this, decide_false, if_true]
    split <;> first | rfl | (split <;> first | rfl | (split <;> rfl))

theorem EqualFunc_of (a b : List Term) (t0 t1 : Bool) (hl : a.length < 4611686018427387904) (ih : ∀ x ∈ a, ∀ y, RN 86 [.ag (Term.cells x), .ag (Term.cells y)] [] = some (.bool (decide (x = y)), [], [])) :
    RN 126 [.sl t0 .term a, .sl t1 .term b, .c (.fn 86 [])] [] = some (.bool (decide (a = b)), [], []) := by
  refine rn_of_resid (n := a.length + 1) ?_
  rw [slices_EqualFunc_impl_Term_impl_Term_impl_Term_impl_Term_res]
  by_cases hl2 : a.length = b.length
  · obtain ⟨e, he, hloop⟩ := lp_eq (P := Tryd.prog) (cfg := cfg) (T := RN) (n := a.length + 1) (d := 5) (f := 126) (r := 4) (na := 0) a b hl2
      (fun i => ⟨frOf [(1, .sl t1 .term b), (2, .c (.fn 86 [])), (6, .bool false), (15, .sl t0 .term a), (16, .int a.length), (17, .int i)], hpIds []⟩)
      (.ext 0, ⟨frOf [(6, .bool false)], hpIds []⟩) (.ret, ⟨frOf [(6, .bool false)], hpIds []⟩)
      (by rw [slices_EqualFunc_impl_Term_impl_Term_impl_Term_impl_Term_round4, lt_self]; rfl) rfl rfl
      (fun i x y hx hy hi => by
        have h := pres_f (ih x (List.mem_of_getElem? hx) y)
        simp only [Term.cells, V.ag, List.map_cons, List.map_nil] at h
        rw [slices_EqualFunc_impl_Term_impl_Term_impl_Term_impl_Term_round4, lt_t hi, idx_nat hx, idx_nat hy]
        simp only [br, qb, h, unC, fBool]
        rw [wrap_succ (by omega)]
        exact ⟨fun he => by simp only [he, decide_true, Bool.not_true], fun he => by simp only [he, decide_false, Bool.not_false]⟩)
      (a.length + 1) (by omega)
    rw [show ((a.length : Int) != (b.length : Int)) = false by simp [hl2]]
    simp only [br]
    refine (qb_run hloop).trans ?_
    rw [← he]
    cases e <;> rfl
  · rw [show ((a.length : Int) != (b.length : Int)) = true by simp; omega]
    have : ¬ a = b := fun e => hl2 (by rw [e])
    simp [br, this]

theorem impl_Same_rn : ∀ a : Term, a.cost < 4611686018427387904 → ∀ b, RN 86 [.ag (Term.cells a), .ag (Term.cells b)] [] = some (.bool (decide (a = b)), [], []) := by
  refine Term.ind ?_
  intro a ih hc b
  rw [Term.cost_eq] at hc
  have hl := Term.costs_len a.kids
  have h := pres_f (EqualFunc_of a.kids b.kids false false (by omega) fun x hx y => ih x hx (by have := Term.costs_mem hx; omega) y)
  refine rn_of_resid (n := 0) ?_
  rw [impl_Same_res]
  obtain ⟨o, n, s, k⟩ := a
  obtain ⟨o', n', s', k'⟩ := b
  simp only at h ⊢
  simp only [h, qb, unC, fBool, br_if, beq_bytes]
  by_cases h1 : o = o' <;> by_cases h2 : n = n' <;> by_cases h3 : s = s' <;> by_cases h4 : k = k' <;> simp [h1, h2, h3, h4]

/-! ### Order -/

theorem spec_Before_rn : ∀ a : Term, a.cost < 4611686018427387904 → ∀ b, RN 117 [.ag (Term.cells a), .ag (Term.cells b)] [] = some (.bool (Term.before a b), [], []) := by
  refine Term.ind ?_
  intro a ih hc b
  rw [Term.cost_eq] at hc
  have hl := Term.costs_len a.kids
  refine rn_of_resid (n := a.kids.length + 1) ?_
  rw [spec_Before_res, Term.before_eq]
  simp only [br_if, beq_bytes]
  by_cases h1 : ¬ a.op = b.op
  · simp [h1]
  replace h1 := Classical.not_not.1 h1
  by_cases h2 : ¬ a.n = b.n
  · simp [h1, h2]
  replace h2 := Classical.not_not.1 h2
  by_cases h3 : ¬ a.s = b.s
  · simp [h1, h2, h3]
  replace h3 := Classical.not_not.1 h3
  by_cases h4 : ¬ a.kids.length = b.kids.length
  · have h5 : ¬ ((a.kids.length : Int) = (b.kids.length : Int)) := by omega
    simp [h1, h2, h3, h4, h5]
  replace h4 := Classical.not_not.1 h4
  have hz : (a.kids.zip b.kids).length = a.kids.length := by rw [List.length_zip]; omega
  have hloop := lp_list (P := Tryd.prog) (cfg := cfg) (T := RN) (n := a.kids.length + 1) (d := 5) (f := 117) (r := 10) (na := 0) (a.kids.zip b.kids)
    (fun _ (p : Term × Term) (_ : Unit) => if p.1 = p.2 then (.inl () : Unit ⊕ Bool) else .inr (Term.before p.1 p.2))
    (fun i _ => ⟨frOf [(2, .c (.bx (.own 2) 0)), (3, .c (.bx (.own 3) 0)), (4, .bool false), (5, .int i)], hpIds [(.own 2, .box ((Term.cells a).map C.f)), (.own 3, .box ((Term.cells b).map C.f))]⟩)
    (fun _ => (.ext 1, ⟨frOf [(4, .bool false)], hpIds []⟩)) (fun r => (.ret, ⟨frOf [(4, .bool r)], hpIds []⟩)) (fun _ _ => True)
    (fun _ _ => by rw [spec_Before_round10, hz, lt_self]; rfl) (fun _ => rfl) (fun _ => rfl)
    (fun i p _ hp hi _ => by
      obtain ⟨hx, hy⟩ := zip_get hp
      rw [hz] at hi
      have hm := List.mem_of_getElem? hx
      have hcm := Term.costs_mem hm
      have hs := pres_f (spec_Same_rn p.1 (by omega) p.2)
      have hb := pres_f (ih p.1 hm (by omega) p.2)
      simp only [Term.cells, V.ag, List.map_cons, List.map_nil] at hs hb
      rw [spec_Before_round10, lt_t hi, idx_nat hx, idx_nat hy]
      simp only [br, qb, hs, hb, unC, fBool]
      by_cases he : p.1 = p.2
      · simp only [he, decide_true, Bool.not_true, if_true]
        rw [wrap_succ (by omega)]
        rfl
      · simp only [he, decide_false, Bool.not_false, if_false])
    (fun _ _ _ _ _ _ _ _ => trivial) () (a.kids.length + 1) trivial (by omega)
  simp only [h1, h2, h3, bne_self_eq_false, Bool.false_eq_true, if_false, decide_true, Bool.not_true, ne_eq, not_true, h4]
  rw [← befores_lfold a.kids b.kids 0]
  simp only [Term.cells, h1, h2, h3, h4] at hloop
  refine (qb_run hloop).trans ?_
  cases lfold (fun _ (p : Term × Term) (_ : Unit) => if p.1 = p.2 then (.inl () : Unit ⊕ Bool) else .inr (Term.before p.1 p.2)) 0 (a.kids.zip b.kids) () <;> rfl

theorem impl_Before_rn : ∀ a : Term, a.cost < 4611686018427387904 → ∀ b, RN 125 [.ag (Term.cells a), .ag (Term.cells b)] [] = some (.bool (Term.before a b), [], []) := by
  refine Term.ind ?_
  intro a ih hc b
  rw [Term.cost_eq] at hc
  have hl := Term.costs_len a.kids
  refine rn_of_resid (n := a.kids.length + 1) ?_
  rw [impl_Before_res, Term.before_eq]
  simp only [br_if, beq_bytes]
  by_cases h1 : ¬ a.op = b.op
  · simp [h1]
  replace h1 := Classical.not_not.1 h1
  by_cases h2 : ¬ a.n = b.n
  · simp [h1, h2]
  replace h2 := Classical.not_not.1 h2
  by_cases h3 : ¬ a.s = b.s
  · simp [h1, h2, h3]
  replace h3 := Classical.not_not.1 h3
  by_cases h4 : ¬ a.kids.length = b.kids.length
  · have h5 : ¬ ((a.kids.length : Int) = (b.kids.length : Int)) := by omega
    simp [h1, h2, h3, h4, h5]
  replace h4 := Classical.not_not.1 h4
  have hz : (a.kids.zip b.kids).length = a.kids.length := by rw [List.length_zip]; omega
  have hloop := lp_list (P := Tryd.prog) (cfg := cfg) (T := RN) (n := a.kids.length + 1) (d := 5) (f := 125) (r := 10) (na := 0) (a.kids.zip b.kids)
    (fun _ (p : Term × Term) (_ : Unit) => if p.1 = p.2 then (.inl () : Unit ⊕ Bool) else .inr (Term.before p.1 p.2))
    (fun i _ => ⟨frOf [(3, .c (.bx (.own 3) 0)), (4, .bool false), (56, .sl false .term a.kids), (57, .int a.kids.length), (58, .int i)], hpIds [(.own 3, .box ((Term.cells b).map C.f))]⟩)
    (fun _ => (.ext 1, ⟨frOf [(4, .bool false)], hpIds []⟩)) (fun r => (.ret, ⟨frOf [(4, .bool r)], hpIds []⟩)) (fun _ _ => True)
    (fun _ _ => by rw [impl_Before_round10, hz, lt_self]; rfl) (fun _ => rfl) (fun _ => rfl)
    (fun i p _ hp hi _ => by
      obtain ⟨hx, hy⟩ := zip_get hp
      rw [hz] at hi
      have hm := List.mem_of_getElem? hx
      have hcm := Term.costs_mem hm
      have hs := pres_f (impl_Same_rn p.1 (by omega) p.2)
      have hb := pres_f (ih p.1 hm (by omega) p.2)
      simp only [Term.cells, V.ag, List.map_cons, List.map_nil] at hs hb
      rw [impl_Before_round10, lt_t hi, idx_nat hx, idx_nat hy]
      simp only [br, qb, hs, hb, unC, fBool]
      by_cases he : p.1 = p.2
      · simp only [he, decide_true, Bool.not_true, if_true]
        rw [wrap_succ (by omega)]
        rfl
      · simp only [he, decide_false, Bool.not_false, if_false])
    (fun _ _ _ _ _ _ _ _ => trivial) () (a.kids.length + 1) trivial (by omega)
  simp only [h1, h2, h3, bne_self_eq_false, Bool.false_eq_true, if_false, decide_true, Bool.not_true, ne_eq, not_true, h4]
  rw [← befores_lfold a.kids b.kids 0]
  simp only [Term.cells, h1, h2, h3, h4] at hloop
  refine (qb_run hloop).trans ?_
  cases lfold (fun _ (p : Term × Term) (_ : Unit) => if p.1 = p.2 then (.inl () : Unit ⊕ Bool) else .inr (Term.before p.1 p.2)) 0 (a.kids.zip b.kids) () <;> rfl

end Go.Proofs.YtepghohkfnmhmaaDoor
