/-
  What the laws' own helpers come to: sizes, copies, comparisons of terms.
-/
import Derived.Test.YtepghohkfnmhmaaDoorFRes
import Derived.Test.YtepghohkfnmhmaaDoorVmLib
namespace Go.Proofs.YtepghohkfnmhmaaDoor
open Go.Vm
set_option linter.unusedVariables false
set_option linter.unusedSimpArgs false

/-! ### eqTerm -/

theorem eqTermS_of (a b : List Term) (t0 t1 : Bool) (ha : a.length < 9223372036854775807) (ih : ∀ x ∈ a, ∀ y, RN 41 [.ag (Term.cells x), .ag (Term.cells y)] [] = some (.bool (decide (x = y)), [], [])) :
    RN 74 [.sl t0 .term a, .sl t1 .term b] [] = some (.bool (decide (a = b)), [], []) := by
  refine rn_of_resid (n := a.length + 1) ?_
  rw [laws_eqTermS_res]
  by_cases hl : a.length = b.length
  · rw [show ((a.length : Int) != (b.length : Int)) = false by simp [hl]]
    simp only [br]
    obtain ⟨e, he, hloop⟩ := lp_eq (P := Tryd.prog) (cfg := cfg) (T := RN) (n := a.length + 1) (d := 5) (f := 74) (r := 4) (na := 0) a b hl
      (fun i => ⟨frOf [(0, .sl t0 .term a), (1, .sl t1 .term b), (4, .bool false), (5, .int i)], hpIds []⟩)
      (.ext 0, ⟨frOf [(4, .bool false)], hpIds []⟩) (.ret, ⟨frOf [(4, .bool false)], hpIds []⟩)
      (by rw [laws_eqTermS_round4, lt_self]; rfl) rfl rfl
      (fun i x y hx hy hi => by
        have h := pres_f (ih x (List.mem_of_getElem? hx) y)
        simp only [Term.cells, V.ag, List.map_cons, List.map_nil] at h
        rw [laws_eqTermS_round4, lt_t hi, idx_nat hx, idx_nat hy]
        simp only [br, qb, h, unC, fBool]
        rw [wrap_succ (by omega)]
        exact ⟨fun he => by simp only [he, decide_true, Bool.not_true], fun he => by simp only [he, decide_false, Bool.not_false]⟩)
      (a.length + 1) (by omega)
    refine (qb_run hloop).trans ?_
    rw [← he]
    cases e <;> rfl
  · rw [show ((a.length : Int) != (b.length : Int)) = true by simp; omega]
    have : ¬ a = b := fun e => hl (by rw [e])
    simp [br, this]

theorem eqTerm_rn : ∀ a : Term, a.cost < 9223372036854775807 → ∀ b, RN 41 [.ag (Term.cells a), .ag (Term.cells b)] [] = some (.bool (decide (a = b)), [], []) := by
  refine Term.ind ?_
  intro a ih hc b
  rw [Term.cost_eq] at hc
  have hl := Term.costs_len a.kids
  have hk := pres_f (eqTermS_of a.kids b.kids false false (by omega) fun x hx y => ih x hx (by have := Term.costs_mem hx; omega) y)
  refine rn_of_resid (n := 0) ?_
  rw [laws_eqTerm_res]
  obtain ⟨o, n, s, k⟩ := a
  obtain ⟨o', n', s', k'⟩ := b
  simp only at hk ⊢
  simp only [hk, qb, unC, fBool, br_if, beq_bytes]
  by_cases h1 : o = o' <;> by_cases h2 : n = n' <;> by_cases h3 : s = s' <;> by_cases h4 : k = k' <;> simp [h1, h2, h3, h4]

theorem eqTermS_rn (a b : List Term) (t0 t1 : Bool) (hc : Term.costs a < 9223372036854775807) : RN 74 [.sl t0 .term a, .sl t1 .term b] [] = some (.bool (decide (a = b)), [], []) := by
  have hl := Term.costs_len a
  exact eqTermS_of a b t0 t1 (by omega) fun x hx y => eqTerm_rn x (by have := Term.costs_mem hx; omega) y

/-! ### szTerm -/

theorem vLeft_neg {c : Nat} {left : Int} : (vLeft c left < 0) ↔ ¬ (c : Int) ≤ left := by
  unfold vLeft; split <;> omega

theorem szTermS_of (a : List Term) (t0 : Bool) (left : Int) (h0 : 0 ≤ left) (h1 : left ≤ 1048576) (ha : a.length ≤ maxLen)
    (ih : ∀ x ∈ a, ∀ left : Int, 0 ≤ left → left ≤ 1048576 → RN 30 [.ag (Term.cells x), .int left] [] = some (.int (vLeft x.cost left), [], [])) :
    RN 56 [.sl t0 .term a, .int left] [] = some (.int (vLeft (Term.costs a) left), [], []) := by
  have hmax : maxLen = 9223372036854775807 := rfl
  refine rn_of_resid (n := a.length + 1) ?_
  rw [laws_szTermS_res]
  rw [wrap_id (by omega) (by omega)]
  by_cases hl : (a.length : Int) ≤ left
  · rw [show decide (left - (a.length : Int) < 0) = false by simp; omega]
    simp only [br]
    have hloop := lp_list (P := Tryd.prog) (cfg := cfg) (T := RN) (n := a.length + 1) (d := 5) (f := 56) (r := 5) (na := 0) a
      (fun i x (left : Int) => if (x.cost : Int) ≤ left then (.inl (left - x.cost) : Int ⊕ Unit) else .inr ())
      (fun i left => ⟨frOf [(0, .sl t0 .term a), (1, .int left), (4, .int 0), (5, .int i)], hpIds []⟩)
      (fun left => (.ext 0, ⟨frOf [(1, .int left), (4, .int 0)], hpIds []⟩)) (fun _ => (.ret, ⟨frOf [(1, .int (-1)), (4, .int (-1))], hpIds []⟩)) (fun _ left => 0 ≤ left ∧ left ≤ 1048576)
      (fun _ _ => by rw [laws_szTermS_round5, lt_self]; rfl) (fun _ => rfl) (fun _ => rfl)
      (fun i x left hx hi hinv => by
        have h := pres_f (ih x (List.mem_of_getElem? hx) left hinv.1 hinv.2)
        simp only [Term.cells, V.ag, List.map_cons, List.map_nil] at h
        rw [laws_szTermS_round5, lt_t hi, idx_nat hx]
        simp only [br, qb, h, unC, fInt]
        by_cases he : (x.cost : Int) ≤ left
        · rw [show vLeft x.cost left = left - x.cost by unfold vLeft; rw [if_pos he], show decide (left - (x.cost : Int) < 0) = false by simp; omega]
          simp only [he, if_true]
          rw [wrap_succ (by omega)]
        · rw [show vLeft x.cost left = -1 by unfold vLeft; rw [if_neg he]]
          simp only [he, if_false]
          rfl)
      (fun i x left left' hx hi hinv hst => by
        split at hst
        · cases hst; omega
        · cases hst)
      (left - a.length) (a.length + 1) ⟨by omega, by omega⟩ (by omega)
    refine (qb_run hloop).trans ?_
    have hres : ∀ (l : List Term) (i : Nat) (left : Int), 0 ≤ left → (match lfold (fun i x (left : Int) => if (x.cost : Int) ≤ left then (.inl (left - x.cost) : Int ⊕ Unit) else .inr ()) i l left with | .inl n => n | .inr _ => -1) = vLeft (Term.costs l - l.length) left := by
      intro l
      induction l with
      | nil => intro i left hp; simp [lfold, vLeft, Term.costs, hp]
      | cons x l ihl =>
        intro i left hp
        have := Term.costs_len l
        have hc : (Term.costs (x :: l) - (x :: l).length) = x.cost + (Term.costs l - l.length) := by simp [Term.costs]; omega
        rw [hc]
        simp only [lfold]
        by_cases he : (x.cost : Int) ≤ left
        · simp only [he, if_true]
          rw [ihl (i + 1) _ (by omega)]
          unfold vLeft
          by_cases h2 : (((Term.costs l - l.length : Nat) : Int) ≤ left - x.cost)
          · rw [if_pos h2, if_pos (by omega)]; omega
          · rw [if_neg h2, if_neg (by omega)]
        · simp only [he, if_false]
          unfold vLeft
          rw [if_neg (by omega)]
    have hr := hres a 0 (left - a.length) (by omega)
    have hlen := Term.costs_len a
    have hfin : vLeft (Term.costs a - a.length) (left - a.length) = vLeft (Term.costs a) left := by
      unfold vLeft
      by_cases h2 : (((Term.costs a - a.length : Nat) : Int) ≤ left - a.length)
      · rw [if_pos h2, if_pos (by omega)]; omega
      · rw [if_neg h2, if_neg (by omega)]
    rw [hfin] at hr
    rw [← hr]
    cases lfold (fun i x (left : Int) => if (x.cost : Int) ≤ left then (.inl (left - x.cost) : Int ⊕ Unit) else .inr ()) 0 a (left - a.length) <;> rfl
  · rw [show decide (left - (a.length : Int) < 0) = true by simp; omega]
    have hlen := Term.costs_len a
    simp only [br, vLeft]
    rw [if_neg (by omega)]

theorem szTerm_rn : ∀ a : Term, a.Bd → ∀ left : Int, 0 ≤ left → left ≤ 1048576 → RN 30 [.ag (Term.cells a), .int left] [] = some (.int (vLeft a.cost left), [], []) := by
  have hmax : maxLen = 9223372036854775807 := rfl
  refine Term.ind ?_
  intro a ih hb left h0 h1
  obtain ⟨b1, b2, b3⟩ := hb
  refine rn_of_resid (n := 0) ?_
  rw [laws_szTerm_res, wrap_id (by omega) (by omega), Term.cost_eq]
  by_cases hl : (a.s.size : Int) ≤ left
  · rw [show decide (left - (a.s.size : Int) < 0) = false by simp; omega]
    have hk := pres_f (szTermS_of a.kids false (left - a.s.size) (by omega) (by omega) b2 fun x hx l g0 g1 => ih x hx (b3 x hx) l g0 g1)
    simp only [br, hk, qb, unC, fInt]
    unfold vLeft
    by_cases h2 : ((Term.costs a.kids : Nat) : Int) ≤ left - a.s.size
    · rw [if_pos h2, if_pos (by omega), show decide (left - (a.s.size : Int) - (Term.costs a.kids : Int) < 0) = false by simp; omega]
      simp only [V.int, Option.some.injEq, Prod.mk.injEq, V.c.injEq, C.f.injEq, F.sc.injEq, Value.int.injEq, true_and, and_true]
      omega
    · rw [if_neg h2, if_neg (by omega)]
      rfl
  · rw [show decide (left - (a.s.size : Int) < 0) = true by simp; omega]
    simp only [br, vLeft]
    rw [if_neg (by omega)]

theorem szTermS_rn (a : List Term) (t0 : Bool) (ha : a.length ≤ maxLen) (hb : ∀ x ∈ a, x.Bd) (left : Int) (h0 : 0 ≤ left) (h1 : left ≤ 1048576) :
    RN 56 [.sl t0 .term a, .int left] [] = some (.int (vLeft (Term.costs a) left), [], []) :=
  szTermS_of a t0 left h0 h1 ha fun x hx l g0 g1 => szTerm_rn x (hb x hx) l g0 g1

/-! ### toTerm -/

theorem toTermS_of (a : List Term) (t0 : Bool) (ha : a.length ≤ 1000000000) (ih : ∀ x ∈ a, RN 35 [.ag (Term.cells x)] [] = some (.ag (Term.cells x), [], [])) :
    RN 65 [.sl t0 .term a] [] = some (.c (.row (.ret 0 0) .term), [], [.row true .term a]) := by
  refine rn_of_resid (n := a.length + 1) ?_
  rw [laws_toTermS_res]
  rw [show (decide ((a.length : Int) = (a.length : Int)) && decide (0 ≤ (a.length : Int)) && ((a.length : Int)).toNat.ble appMax) = true by simp [appMax]; omega]
  simp only [br]
  rw [show ((a.length : Int)).toNat = a.length by omega]
  have hloop := lp_list (P := Tryd.prog) (cfg := cfg) (T := RN) (n := a.length + 1) (d := 5) (f := 65) (r := 3) (na := 0) a
    (fun i x (l : List Term) => (.inl (l.set i x) : List Term ⊕ Unit))
    (fun i l => ⟨frOf [(0, .sl t0 .term a), (3, .c (.row (.own 3) .term)), (4, .int i)], hpIds [(.own 3, .row true .term l)]⟩)
    (fun l => (.ext 0, ⟨frOf [(3, .c (.row (.own 3) .term))], hpIds [(.own 3, .row true .term l)]⟩)) (fun _ => (.ret, ⟨frOf [], hpIds []⟩)) (fun i l => l.length = a.length)
    (fun _ _ => by rw [laws_toTermS_round3, lt_self]; rfl) (fun _ => rfl) (fun _ => rfl)
    (fun i x l hx hi hinv => by
      have h := pres_ag (ih x (List.mem_of_getElem? hx))
      simp only [Term.cells, V.ag, List.map_cons, List.map_nil] at h
      obtain ⟨y, hy⟩ : ∃ y, l[i]? = some y := ⟨l[i]'(by omega), by simp⟩
      rw [laws_toTermS_round3, lt_t hi, idx_nat hx]
      simp only [br, qb, h, asEl, lmapM, frzC, Option.bind_some, ofCells, idx_nat hy]
      rw [show ((i : Int)).toNat = i by omega, hy]
      simp only
      rw [wrap_succ (by omega), Term.eta])
    (fun i x l l' hx hi hinv hst => by cases hst; simp [hinv])
    (List.replicate a.length (zeroEl .term)) (a.length + 1) (by simp) (by omega)
  refine (qb_run hloop).trans ?_
  have hres : ∀ (l p z : List Term) (i : Nat), p.length = i → z.length = l.length → lfold (fun i x (l : List Term) => (.inl (l.set i x) : List Term ⊕ Unit)) i l (p ++ z) = .inl (p ++ l) := by
    intro l
    induction l with
    | nil => intro p z i h1 h2; cases z with | nil => rfl | cons => simp at h2
    | cons x l ihl =>
      intro p z i h1 h2
      cases z with
      | nil => simp at h2
      | cons y z =>
        simp only [lfold]
        rw [show (p ++ y :: z).set i x = (p ++ [x]) ++ z by subst h1; simp]
        rw [ihl (p ++ [x]) z (i + 1) (by simp [h1]) (by simpa using h2)]
        simp
  have hr := hres a [] (List.replicate a.length (zeroEl .term)) 0 rfl (by simp)
  rw [List.nil_append, List.nil_append] at hr
  rw [hr]
  rfl

theorem toTerm_rn : ∀ a : Term, a.cost ≤ 1000000000 → RN 35 [.ag (Term.cells a)] [] = some (.ag (Term.cells a), [], []) := by
  refine Term.ind ?_
  intro a ih hc
  rw [Term.cost_eq] at hc
  have hl := Term.costs_len a.kids
  have hk := pres_row (toTermS_of a.kids false (by omega) fun x hx => ih x hx (by have := Term.costs_mem hx; omega))
  refine rn_of_resid (n := 0) ?_
  rw [laws_toTerm_res]
  simp only [hk, qb, unC, fSl]
  rfl

theorem toTermS_rn (a : List Term) (t0 : Bool) (hc : Term.costs a ≤ 1000000000) : RN 65 [.sl t0 .term a] [] = some (.c (.row (.ret 0 0) .term), [], [.row true .term a]) := by
  have hl := Term.costs_len a
  exact toTermS_of a t0 (by omega) fun x hx => toTerm_rn x (by have := Term.costs_mem hx; omega)

end Go.Proofs.YtepghohkfnmhmaaDoor
