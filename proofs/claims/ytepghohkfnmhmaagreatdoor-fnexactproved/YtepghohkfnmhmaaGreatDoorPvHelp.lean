/-
  What the laws' own helpers come to: sizes, copies, comparisons.
-/
import Derived.Test.YtepghohkfnmhmaaGreatDoorPvRes
import Derived.Test.YtepghohkfnmhmaaGreatDoorVm6
namespace Go.Proofs.YtepghohkfnmhmaaGreatDoor
open Go.Vm
set_option linter.unusedVariables false
set_option linter.unusedSimpArgs false

theorem eqTermS_of (a b : List Term) (ha : a.length < 9223372036854775807) (ih : ∀ x ∈ a, ∀ y, laws_eqTerm_T x y = some (decide (x = y))) : laws_eqTermS_T a b = some (decide (a = b)) := by
  refine laws_eqTermS_of (a.length + 1) a b ?_
  unfold laws_eqTermS_R
  by_cases hl : a.length = b.length
  · rw [show ((a.length : Int) != (b.length : Int)) = false by simp [hl], br_f]
    refine (qb_run (laws_eqTermS_L4_if (lp_eq' a b hl (fun i => laws_eqTermS_S4 false a false b false i) (.ext 0, laws_eqTermS_O4 false) (.ret, laws_eqTermS_O4 false) (by rw [laws_eqTermS_round4, lt_self]; rfl) rfl rfl
      (fun i x y hx hy hi => by
        rw [laws_eqTermS_round4, lt_t hi, idx_nat hx, idx_nat hy]
        simp only [br_t, qb_s, ih x (List.mem_of_getElem? hx) y]
        rw [wrap_succ (by omega)]
        by_cases he : x = y <;> simp [he, br_t, br_f]) (a.length + 1) (by omega)))).trans ?_
    by_cases hab : a = b <;> simp [hab, isRetE_r, isRetE_e, isExt_e, br_t, br_f]
  · rw [show ((a.length : Int) != (b.length : Int)) = true by simp; omega, br_t]
    simp [len_ne hl]

theorem eqTerm_t : ∀ a : Term, a.cost < 9223372036854775807 → ∀ b, laws_eqTerm_T a b = some (decide (a = b)) := by
  refine Term.ind ?_
  intro a ih hc b
  rw [Term.cost_eq] at hc
  have hl := Term.costs_len a.kids
  have hk := eqTermS_of a.kids b.kids (by omega) fun x hx y => ih x hx (by have := Term.costs_mem hx; omega) y
  refine laws_eqTerm_of 0 a b ?_
  unfold laws_eqTerm_R
  obtain ⟨o, n, s, k⟩ := a
  obtain ⟨o', n', s', k'⟩ := b
  simp only at hk ⊢
  simp only [hk, qb_s, br_if, not_beq_bytes, bne_int]
  by_cases h1 : o = o' <;> by_cases h2 : n = n' <;> by_cases h3 : s = s' <;> by_cases h4 : k = k' <;> simp [h1, h2, h3, h4]

theorem eqTermS_t (a b : List Term) (hc : Term.costs a < 9223372036854775807) : laws_eqTermS_T a b = some (decide (a = b)) := by
  have hl := Term.costs_len a
  exact eqTermS_of a b (by omega) fun x hx y => eqTerm_t x (by have := Term.costs_mem hx; omega) y

theorem szTermS_of (a : List Term) (left : Int) (h0 : 0 ≤ left) (h1 : left ≤ 1048576) (ha : a.length ≤ 9223372036854775807) (ih : ∀ x ∈ a, ∀ left : Int, 0 ≤ left → left ≤ 1048576 → laws_szTerm_T x left = some (vLeft (Term.cost x) left)) :
    laws_szTermS_T a left = some (vLeft (a.length + sumC Term.cost a) left) := by
  refine laws_szTermS_of (a.length + 1) a left ?_
  unfold laws_szTermS_R
  rw [wrap_id (by omega) (by omega)]
  by_cases hl : (a.length : Int) ≤ left
  · rw [show decide (left - (a.length : Int) < 0) = false by simp; omega, br_f]
    have hloop := lp_sz (P := Tryz.prog) (cfg := cfg) (T := RN) (n := a.length + 1) (d := 5) (f := 9) (r := 5) (na := 0) a Term.cost (fun i left => laws_szTermS_S5 false a left 0 i) (fun left => laws_szTermS_O5 left 0) (fun m => laws_szTermS_O5 m (-1))
      (fun _ _ _ => by rw [laws_szTermS_round5, lt_self]; rfl)
      (fun i x left hx hi h0 h1 => by
        have h := ih x (List.mem_of_getElem? hx) left h0 h1
        rw [laws_szTermS_round5, lt_t hi, idx_nat hx]
        simp only [br_t, qb_s, h]
        refine ⟨fun he => ?_, fun he => ⟨-1, ?_⟩⟩
        · rw [vLeft_yes he, show decide (left - ((Term.cost x : Nat) : Int) < 0) = false by simp; omega, wrap_succ (by omega)]
          rfl
        · rw [vLeft_not he]
          rfl)
      (left - a.length) (a.length + 1) (by omega) (by omega) (by omega)
    by_cases hc : ((sumC Term.cost a : Nat) : Int) ≤ left - a.length
    · refine (qb_run (laws_szTermS_L5_of (hloop.1 hc))).trans ?_
      rw [vLeft_yes (by omega)]
      simp only [isRetE_e, isExt_e, br_t, br_f]
      exact some_congr (by omega)
    · obtain ⟨m, hm⟩ := hloop.2 hc
      refine (qb_run (laws_szTermS_L5_of hm)).trans ?_
      rw [vLeft_not (by omega)]
      rfl
  · rw [show decide (left - (a.length : Int) < 0) = true by simp; omega, vLeft_not (by omega)]
    rfl

theorem szTerm_t : ∀ a : Term, a.Bd → ∀ left : Int, 0 ≤ left → left ≤ 1048576 → laws_szTerm_T a left = some (vLeft a.cost left) := by
  have hmax : maxLen = 9223372036854775807 := rfl
  refine Term.ind ?_
  intro a ih hb left h0 h1
  obtain ⟨b1, b2, b3⟩ := hb
  refine laws_szTerm_of 0 a left ?_
  unfold laws_szTerm_R
  rw [wrap_id (by omega) (by omega), Term.cost_eq]
  by_cases hl : (a.s.size : Int) ≤ left
  · have hk := szTermS_of a.kids (left - a.s.size) (by omega) (by omega) (by omega) fun x hx l g0 g1 => ih x hx (b3 x hx) l g0 g1
    rw [show decide (left - (a.s.size : Int) < 0) = false by simp; omega, br_f, hk, qb_s, vLeft_ge (by omega), vLeft_add hl, Term.costs_sum]
    by_cases h2 : ((a.kids.length + sumC Term.cost a.kids : Nat) : Int) ≤ left - a.s.size
    · rw [decide_eq_true h2]; rfl
    · rw [decide_eq_false h2, vLeft_not h2]; rfl
  · rw [show decide (left - (a.s.size : Int) < 0) = true by simp; omega, vLeft_no hl]
    rfl

theorem szTermS_t (a : List Term) (ha : a.length ≤ maxLen) (hb : ∀ x ∈ a, x.Bd) (left : Int) (h0 : 0 ≤ left) (h1 : left ≤ 1048576) : laws_szTermS_T a left = some (vLeft (Term.costs a) left) := by
  have hmax : maxLen = 9223372036854775807 := rfl
  rw [Term.costs_sum]
  exact szTermS_of a left h0 h1 (by omega) fun x hx l g0 g1 => szTerm_t x (hb x hx) l g0 g1

theorem toTermS_of (a : List Term) (ha : a.length ≤ 1000000000) (ih : ∀ x ∈ a, laws_toTerm_T x = some x) : laws_toTermS_T a = some a := by
  refine laws_toTermS_of (a.length + 1) a ?_
  unfold laws_toTermS_R
  rw [show (decide ((a.length : Int) = (a.length : Int)) && decide (0 ≤ (a.length : Int)) && ((a.length : Int)).toNat.ble appMax) = true by simp [appMax]; omega, br_t, show ((a.length : Int)).toNat = a.length by omega]
  refine (qb_run (laws_toTermS_L3_of (lp_copy a (zeroEl .term) (fun i l => laws_toTermS_S3 false a l i) (fun l => laws_toTermS_O3 l) (fun _ _ => by rw [laws_toTermS_round3, lt_self]; rfl)
    (fun i x l hx hi hinv => by
      obtain ⟨y, hy⟩ : ∃ y, l[i]? = some y := ⟨l[i]'(by omega), by simp⟩
      rw [laws_toTermS_round3, lt_t hi, idx_nat hx]
      simp only [br_t, qb_s, ih x (List.mem_of_getElem? hx), idx_nat hy]
      rw [show ((i : Int)).toNat = i by omega, hy, wrap_succ (by omega)]
      simp only [qb_s, Term.eta]) (a.length + 1) (by omega)))).trans ?_
  rfl

theorem toTerm_t : ∀ a : Term, a.cost ≤ 1000000000 → laws_toTerm_T a = some a := by
  refine Term.ind ?_
  intro a ih hc
  rw [Term.cost_eq] at hc
  have hl := Term.costs_len a.kids
  refine laws_toTerm_of 0 a ?_
  unfold laws_toTerm_R
  rw [toTermS_of a.kids (by omega) fun x hx => ih x hx (by have := Term.costs_mem hx; omega), qb_s, Term.eta]

theorem toTermS_t (a : List Term) (hc : Term.costs a ≤ 1000000000) : laws_toTermS_T a = some a := by
  have hl := Term.costs_len a
  exact toTermS_of a (by omega) fun x hx => toTerm_t x (by have := Term.costs_mem hx; omega)

end Go.Proofs.YtepghohkfnmhmaaGreatDoor
