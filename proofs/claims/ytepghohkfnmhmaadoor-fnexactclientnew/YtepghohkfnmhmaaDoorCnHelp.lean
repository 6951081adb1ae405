/-
  What the laws' own helpers come to: sizes, copies, comparisons.
-/
import Derived.Test.YtepghohkfnmhmaaDoorCnRes
import Derived.Test.YtepghohkfnmhmaaDoorVm6
namespace Go.Proofs.YtepghohkfnmhmaaDoor
open Go.Vm
set_option linter.unusedVariables false
set_option linter.unusedSimpArgs false

theorem eqTermS_of (a b : List Term) (ha : a.length < 9223372036854775807) (ih : ∀ x ∈ a, ∀ y, laws_eqTerm_T x y = some (decide (x = y))) : laws_eqTermS_T a b = some (decide (a = b)) := by
  refine laws_eqTermS_of (a.length + 1) a b ?_
  unfold laws_eqTermS_R
  by_cases hl : a.length = b.length
  · rw [show ((a.length : Int) != (b.length : Int)) = false by simp [hl], br_f]
    refine (qb_run (laws_eqTermS_L4_if (lp_eq' a b hl (fun i => laws_eqTermS_S4 false a false b false i) (.ext 0, laws_eqTermS_O4 false) (.ret, laws_eqTermS_O4 false) (by rw [laws_eqTermS_round4, lt_self]; rfl) rfl rfl
      (fun i x y hx hy hi => by
        rw [laws_eqTermS_round4, lt_t hi, idx_nat hx, idx_nat hy]
        simp only [br_t, qb_s, ih x (List.mem_of_getElem? hx) y]
        rw [wrap_succ (by omega)]
        by_cases he : x = y <;> simp [he, br_t, br_f]) (a.length + 1) (by omega)))).trans ?_
    by_cases hab : a = b <;> simp [hab, isRetE_r, isRetE_e, isExt_e, br_t, br_f]
  · rw [show ((a.length : Int) != (b.length : Int)) = true by simp; omega, br_t]
    simp [len_ne hl]

theorem eqTerm_t : ∀ a : Term, a.cost < 9223372036854775807 → ∀ b, laws_eqTerm_T a b = some (decide (a = b)) := by
  refine Term.ind ?_
  intro a ih hc b
  rw [Term.cost_eq] at hc
  have hl := Term.costs_len a.kids
  have hk := eqTermS_of a.kids b.kids (by omega) fun x hx y => ih x hx (by have := Term.costs_mem hx; omega) y
  refine laws_eqTerm_of 0 a b ?_
  unfold laws_eqTerm_R
  obtain ⟨o, n, s, k⟩ := a
  obtain ⟨o', n', s', k'⟩ := b
  simp only at hk ⊢
  simp only [hk, qb_s, br_if, not_beq_bytes, bne_int]
  by_cases h1 : o = o' <;> by_cases h2 : n = n' <;> by_cases h3 : s = s' <;> by_cases h4 : k = k' <;> simp [h1, h2, h3, h4]

theorem eqTermS_t (a b : List Term) (hc : Term.costs a < 9223372036854775807) : laws_eqTermS_T a b = some (decide (a = b)) := by
  have hl := Term.costs_len a
  exact eqTermS_of a b (by omega) fun x hx y => eqTerm_t x (by have := Term.costs_mem hx; omega) y

end Go.Proofs.YtepghohkfnmhmaaDoor
