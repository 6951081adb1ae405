/-
  Numbers in a range; terms: size, order, what is right.
-/
import Derived.Test.YtgegmojoakkohaaGreatDoorMeRes
import Derived.Test.YtgegmojoakkohaaGreatDoorVm6
namespace Go.Proofs.YtgegmojoakkohaaGreatDoor
open Go.Vm
set_option linter.unusedVariables false
set_option linter.unusedSimpArgs false

theorem spec_l1In_t (n lo hi : Int) : spec_l1In_T n lo hi = some (decide (lo ≤ n) && decide (n ≤ hi)) := by
  refine spec_l1In_of 0 n lo hi ?_
  unfold spec_l1In_R
  by_cases h : lo ≤ n <;> simp [br, h]

theorem impl_in_t (n lo hi : Int) : impl_in_T n lo hi = some (decide (lo ≤ n) && decide (n ≤ hi)) := by
  refine impl_in_of 0 n lo hi ?_
  unfold impl_in_R
  by_cases h : lo ≤ n <;> simp [br, h]

theorem impl_isAtom_t (n : Int) : impl_isAtom_T n = some (isAtom n) := by
  refine impl_isAtom_of 0 n ?_
  unfold impl_isAtom_R
  rw [impl_in_t]
  rfl

/-! ### Size -/

theorem spec_TermSize_t : ∀ t : Term, t.size < 4611686018427387904 → spec_TermSize_T t = some (t.size : Int) := by
  refine Term.ind ?_
  intro t ih hc
  have hl : t.kids.length ≤ Term.sizes t.kids := Term.len_sizes t.kids
  rw [Term.size_eq] at hc
  rw [Term.size_eq, Term.sizes_sum]
  rw [Term.sizes_sum] at hc hl
  refine spec_TermSize_of (t.kids.length + 1) t ?_
  unfold spec_TermSize_R
  refine (qb_run (spec_TermSize_L3_of (e := .ext 0) (x3O := ((1 + sumC Term.size t.kids : Nat) : Int)) (lp_sum t.kids Term.size (fun i a => spec_TermSize_S3 a i t) (fun a => (.ext 0, spec_TermSize_O3 a)) 4611686018427387904
    (fun a => by rw [spec_TermSize_round3, lt_self]; rfl) (fun _ => rfl)
    (fun i x a hx hi hb => by
      have hk : x.size ≤ sumC Term.size t.kids := sumC_mem _ (List.mem_of_getElem? hx)
      rw [spec_TermSize_round3, lt_t hi, idx_nat hx]
      simp only [br_t, qb_s, ih x (List.mem_of_getElem? hx) (by omega)]
      rw [wrap_succ (by omega), wrap_id (by omega) (by omega)]
      rfl)
    1 (t.kids.length + 1) (by omega) (by omega)))).trans ?_
  rfl

theorem impl_TermSize_t : ∀ t : Term, t.size < 4611686018427387904 → impl_TermSize_T t = some (t.size : Int) := by
  refine Term.ind ?_
  intro t ih hc
  have hl : t.kids.length ≤ Term.sizes t.kids := Term.len_sizes t.kids
  rw [Term.size_eq] at hc
  rw [Term.size_eq, Term.sizes_sum]
  rw [Term.sizes_sum] at hc hl
  refine impl_TermSize_of (t.kids.length + 1) t ?_
  unfold impl_TermSize_R
  refine (qb_run (impl_TermSize_L3_of (e := .ext 0) (x3O := ((1 + sumC Term.size t.kids : Nat) : Int)) (lp_sum t.kids Term.size (fun i a => impl_TermSize_S3 a false t.kids t.kids.length i) (fun a => (.ext 0, impl_TermSize_O3 a)) 4611686018427387904
    (fun a => by rw [impl_TermSize_round3, lt_self]; rfl) (fun _ => rfl)
    (fun i x a hx hi hb => by
      have hk : x.size ≤ sumC Term.size t.kids := sumC_mem _ (List.mem_of_getElem? hx)
      rw [impl_TermSize_round3, lt_t hi, idx_nat hx]
      simp only [br_t, qb_s, ih x (List.mem_of_getElem? hx) (by omega)]
      rw [wrap_succ (by omega), wrap_id (by omega) (by omega)]
      rfl)
    1 (t.kids.length + 1) (by omega) (by omega)))).trans ?_
  rfl

/-! ### Same -/

theorem spec_Same_t : ∀ a : Term, a.cost < 4611686018427387904 → ∀ b, spec_Same_T a b = some (decide (a = b)) := by
  refine Term.ind ?_
  intro a ih hc b
  rw [Term.cost_eq] at hc
  have hl := Term.costs_len a.kids
  refine spec_Same_of (a.kids.length + 1) a b ?_
  unfold spec_Same_R
  by_cases hl2 : a.kids.length = b.kids.length
  · have hloop := spec_Same_L4_if (n := a.kids.length + 1) (q := a.kids.length + 1) (lp_eq' a.kids b.kids hl2 (fun i => spec_Same_S4 false i a b) (.ext 0, spec_Same_O4 false) (.ret, spec_Same_O4 false)
      (by rw [spec_Same_round4, lt_self]; rfl) rfl rfl
      (fun i x y hx hy hi => by
        rw [spec_Same_round4, lt_t hi, idx_nat hx, idx_nat hy]
        simp only [br_t, qb_s, ih x (List.mem_of_getElem? hx) (by have := Term.costs_mem (List.mem_of_getElem? hx); omega) y]
        rw [wrap_succ (by omega)]
        by_cases he : x = y <;> simp [he, br_t, br_f]) (a.kids.length + 1) (by omega))
    have hz : spec_Same_L4 (a.kids.length + 1) (a.kids.length + 1) false 0 a b = _ := hloop
    rw [hz, show ((a.kids.length : Int) != (b.kids.length : Int)) = false by simp [hl2]]
    simp only [qb_s, br_if, not_beq_bytes, bne_int]
    obtain ⟨o, n, s, k⟩ := a
    obtain ⟨o', n', s', k'⟩ := b
    simp only [Term.mk.injEq]
    by_cases h1 : o = o' <;> by_cases h2 : n = n' <;> by_cases h3 : s = s' <;> by_cases h4 : k = k' <;> simp [h1, h2, h3, h4, isRetE_r, isRetE_e, isExt_e]
  · rw [show ((a.kids.length : Int) != (b.kids.length : Int)) = true by simp; omega]
    have : ¬ a = b := fun e => hl2 (by rw [e])
    simp only [br_if, not_beq_bytes, bne_int]
    by_cases h1 : a.op = b.op <;> by_cases h2 : a.n = b.n <;> by_cases h3 : a.s = b.s <;> simp [h1, h2, h3, this]

theorem EqualFunc_t (a b : List Term) (hl : a.length < 4611686018427387904) (ih : ∀ x ∈ a, ∀ y, impl_Same_T x y = some (decide (x = y))) :
    slices_EqualFunc_impl_Term_impl_Term_impl_Term_impl_Term_T a b (.c (.fn 22 [])) = some (decide (a = b)) := by
  refine EqualFunc_Same_of (a.length + 1) a b ?_
  unfold EqualFunc_Same_R
  by_cases hl2 : a.length = b.length
  · rw [show ((a.length : Int) != (b.length : Int)) = false by simp [hl2], br_f]
    refine (qb_run (EqualFunc_Same_L4_if (lp_eq' a b hl2 (fun i => EqualFunc_Same_S4 false b false false a a.length i) (.ext 0, EqualFunc_Same_O4 false) (.ret, EqualFunc_Same_O4 false)
      (by rw [EqualFunc_Same_round4, lt_self]; rfl) rfl rfl
      (fun i x y hx hy hi => by
        rw [EqualFunc_Same_round4, lt_t hi, idx_nat hx, idx_nat hy]
        simp only [br_t, qb_s, ih x (List.mem_of_getElem? hx) y]
        rw [wrap_succ (by omega)]
        by_cases he : x = y <;> simp [he, br_t, br_f]) (a.length + 1) (by omega)))).trans ?_
    by_cases hab : a = b <;> simp [hab, isRetE_r, isRetE_e, isExt_e, br_t, br_f]
  · rw [show ((a.length : Int) != (b.length : Int)) = true by simp; omega, br_t]
    simp [len_ne hl2]

theorem impl_Same_t : ∀ a : Term, a.cost < 4611686018427387904 → ∀ b, impl_Same_T a b = some (decide (a = b)) := by
  refine Term.ind ?_
  intro a ih hc b
  rw [Term.cost_eq] at hc
  have hl := Term.costs_len a.kids
  have h := EqualFunc_t a.kids b.kids (by omega) fun x hx y => ih x hx (by have := Term.costs_mem hx; omega) y
  refine impl_Same_of 0 a b ?_
  unfold impl_Same_R
  rw [h]
  obtain ⟨o, n, s, k⟩ := a
  obtain ⟨o', n', s', k'⟩ := b
  simp only [qb_s, br_if, beq_bytes, beq_int, Term.mk.injEq]
  by_cases h1 : o = o' <;> by_cases h2 : n = n' <;> by_cases h3 : s = s' <;> by_cases h4 : k = k' <;> simp [h1, h2, h3, h4]

/-! ### Order -/

theorem spec_Before_t : ∀ a : Term, a.cost < 4611686018427387904 → ∀ b, spec_Before_T a b = some (Term.before a b) := by
  refine Term.ind ?_
  intro a ih hc b
  rw [Term.cost_eq] at hc
  have hl := Term.costs_len a.kids
  obtain ⟨N, hN⟩ : ∃ N, N = a.kids.length + 1 := ⟨_, rfl⟩
  refine spec_Before_of N a b ?_
  unfold spec_Before_R
  rw [Term.before_eq]
  simp only [br_if, not_beq_bytes, bne_int]
  by_cases h1 : a.op = b.op
  case neg => simp [h1]
  by_cases h2 : a.n = b.n
  case neg => simp [h1, h2]
  by_cases h3 : a.s = b.s
  case neg => simp [h1, h2, h3]
  by_cases h4 : a.kids.length = b.kids.length
  case neg =>
    have h5 : ¬ ((a.kids.length : Int) = (b.kids.length : Int)) := by omega
    simp [h1, h2, h3, h4, h5]
  have hz : (a.kids.zip b.kids).length = a.kids.length := by rw [List.length_zip]; omega
  have hloop := lp_list (P := Tryz.prog) (cfg := cfg) (T := RN) (n := N) (d := 5) (f := 129) (r := 10) (na := 0) (a.kids.zip b.kids)
    (fun _ (p : Term × Term) (_ : Unit) => if p.1 = p.2 then (.inl () : Unit ⊕ Bool) else .inr (Term.before p.1 p.2))
    (fun i _ => spec_Before_S10 false i a b) (fun _ => (.ext 1, spec_Before_O10 false)) (fun r => (.ret, spec_Before_O10 r)) (fun _ _ => True)
    (fun _ _ => by rw [spec_Before_round10, hz, lt_self]; rfl) (fun _ => rfl) (fun _ => rfl)
    (fun i p _ hp hi _ => by
      obtain ⟨hx, hy⟩ := zip_get hp
      rw [hz] at hi
      have hm := List.mem_of_getElem? hx
      have hcm := Term.costs_mem hm
      rw [spec_Before_round10, lt_t hi, idx_nat hx, idx_nat hy]
      simp only [br_t, qb_s, spec_Same_t p.1 (by omega) p.2, ih p.1 hm (by omega) p.2]
      rw [wrap_succ (by omega)]
      by_cases he : p.1 = p.2 <;> simp [he, br_t, br_f])
    (fun _ _ _ _ _ _ _ _ => trivial) () N trivial (by omega)
  simp only [h1, h2, h3, h4, decide_true, Bool.not_true, Bool.false_eq_true, if_false, ne_eq, not_true]
  rw [← befores_lfold a.kids b.kids 0]
  cases hr : lfold (fun _ (p : Term × Term) (_ : Unit) => if p.1 = p.2 then (.inl () : Unit ⊕ Bool) else .inr (Term.before p.1 p.2)) 0 (a.kids.zip b.kids) () with
  | inl u => rw [hr] at hloop; exact (qb_run (spec_Before_L10_of hloop)).trans rfl
  | inr r => rw [hr] at hloop; exact (qb_run (spec_Before_L10_of hloop)).trans rfl

theorem impl_Before_t : ∀ a : Term, a.cost < 4611686018427387904 → ∀ b, impl_Before_T a b = some (Term.before a b) := by
  refine Term.ind ?_
  intro a ih hc b
  rw [Term.cost_eq] at hc
  have hl := Term.costs_len a.kids
  obtain ⟨N, hN⟩ : ∃ N, N = a.kids.length + 1 := ⟨_, rfl⟩
  refine impl_Before_of N a b ?_
  unfold impl_Before_R
  rw [Term.before_eq]
  simp only [br_if, not_beq_bytes, bne_int]
  by_cases h1 : a.op = b.op
  case neg => simp [h1]
  by_cases h2 : a.n = b.n
  case neg => simp [h1, h2]
  by_cases h3 : a.s = b.s
  case neg => simp [h1, h2, h3]
  by_cases h4 : a.kids.length = b.kids.length
  case neg =>
    have h5 : ¬ ((a.kids.length : Int) = (b.kids.length : Int)) := by omega
    simp [h1, h2, h3, h4, h5]
  have hz : (a.kids.zip b.kids).length = a.kids.length := by rw [List.length_zip]; omega
  have hloop := lp_list (P := Tryz.prog) (cfg := cfg) (T := RN) (n := N) (d := 5) (f := 100) (r := 10) (na := 0) (a.kids.zip b.kids)
    (fun _ (p : Term × Term) (_ : Unit) => if p.1 = p.2 then (.inl () : Unit ⊕ Bool) else .inr (Term.before p.1 p.2))
    (fun i _ => impl_Before_S10 false false a.kids a.kids.length i b) (fun _ => (.ext 1, impl_Before_O10 false)) (fun r => (.ret, impl_Before_O10 r)) (fun _ _ => True)
    (fun _ _ => by rw [impl_Before_round10, hz, lt_self]; rfl) (fun _ => rfl) (fun _ => rfl)
    (fun i p _ hp hi _ => by
      obtain ⟨hx, hy⟩ := zip_get hp
      rw [hz] at hi
      have hm := List.mem_of_getElem? hx
      have hcm := Term.costs_mem hm
      rw [impl_Before_round10, lt_t hi, idx_nat hx, idx_nat hy]
      simp only [br_t, qb_s, impl_Same_t p.1 (by omega) p.2, ih p.1 hm (by omega) p.2]
      rw [wrap_succ (by omega)]
      by_cases he : p.1 = p.2 <;> simp [he, br_t, br_f])
    (fun _ _ _ _ _ _ _ _ => trivial) () N trivial (by omega)
  simp only [h1, h2, h3, h4, decide_true, Bool.not_true, Bool.false_eq_true, if_false, ne_eq, not_true]
  rw [← befores_lfold a.kids b.kids 0]
  rw [h4] at hloop
  cases hr : lfold (fun _ (p : Term × Term) (_ : Unit) => if p.1 = p.2 then (.inl () : Unit ⊕ Bool) else .inr (Term.before p.1 p.2)) 0 (a.kids.zip b.kids) () with
  | inl u => rw [hr] at hloop; exact (qb_run (impl_Before_L10_of hloop)).trans rfl
  | inr r => rw [hr] at hloop; exact (qb_run (impl_Before_L10_of hloop)).trans rfl

end Go.Proofs.YtgegmojoakkohaaGreatDoor
