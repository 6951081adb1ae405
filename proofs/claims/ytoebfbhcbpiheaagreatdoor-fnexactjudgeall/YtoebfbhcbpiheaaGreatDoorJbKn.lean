/-
  What is known, what can be made of it.
-/
import Derived.Test.YtoebfbhcbpiheaaGreatDoorJbWk
import Derived.Test.YtoebfbhcbpiheaaGreatDoorVm6
namespace Go.Proofs.YtoebfbhcbpiheaaGreatDoor
open Go.Vm
set_option linter.unusedVariables false
set_option linter.unusedSimpArgs false

theorem spec_l15In_t (l : List Int) (b : Int) (hl : l.length < 4611686018427387904) : spec_l15In_T l b = some (hasI l b) := by
  refine spec_l15In_of (l.length + 1) l b ?_
  unfold spec_l15In_R
  refine (qb_run (spec_l15In_L2_if (lp_any l (fun x => decide (x = b)) (fun i => spec_l15In_S2 false l b false i) (.ext 0, spec_l15In_O2 false) (.ret, spec_l15In_O2 true)
    (by rw [spec_l15In_round2, lt_self]; rfl) rfl rfl
    (fun i x hx hi => by
      rw [spec_l15In_round2, lt_t hi, idx_nat hx]
      simp only [br_t, qb_s, beq_int]
      rw [wrap_succ (by omega)]
      cases decide (x = b) <;> rfl) (l.length + 1) (by omega)))).trans ?_
  unfold hasI
  cases l.any (fun x => decide (x = b)) <;> rfl
theorem Index_int_t (l : List Int) (b : Int) (hl : l.length < 4611686018427387904) : slices_Index_int_int_T l b = some (idxOf (fun x => decide (x = b)) l) := by
  refine slices_Index_int_int_of (l.length + 1) l b ?_
  unfold slices_Index_int_int_R
  have hloop := lp_at (P := Tryz.prog) (cfg := cfg) (T := RN) (n := l.length + 1) (d := 5) (f := 175) (r := 2) (na := 0) l (fun x => decide (x = b)) (fun i => slices_Index_int_int_S2 false l b 0 l.length i) (.ext 0, slices_Index_int_int_O2 0) (fun i => (.ret, slices_Index_int_int_O2 i))
    (by rw [slices_Index_int_int_round2, lt_self]; rfl) rfl (fun _ => rfl)
    (fun i x hx hi => by
      rw [slices_Index_int_int_round2, lt_t hi, idx_nat hx]
      simp only [br_t, qb_s, beq_int, eq_comm (a := b)]
      rw [wrap_succ (by omega)]
      cases decide (x = b) <;> rfl) (l.length + 1) (by omega)
  unfold idxOf
  cases h : l.findIdx? (fun x => decide (x = b)) with
  | none => rw [h] at hloop; exact (qb_run (slices_Index_int_int_L2_of hloop)).trans rfl
  | some i => rw [h] at hloop; exact (qb_run (slices_Index_int_int_L2_of hloop)).trans rfl

theorem Contains_int_t (l : List Int) (b : Int) (hl : l.length < 4611686018427387904) : slices_Contains_int_int_T l b = some (hasI l b) := by
  refine slices_Contains_int_int_of 0 l b ?_
  unfold slices_Contains_int_int_R
  rw [Index_int_t l b hl, qb_s, idxOf_ge]
  rfl
theorem spec_l3Ok_t (t : Term) (hc : t.cost < 4611686018427387900) : spec_l3Ok_T t = some (if t.ok = true then t else zeroT) := by
  refine spec_l3Ok_of 0 t ?_
  unfold spec_l3Ok_R
  rw [spec_TermOk_t t hc, qb_s, Term.eta]
  cases t.ok <;> rfl
theorem impl_cloneAll_of' (l : List Term) (hl : l.length ≤ 1000000000) (ih : ∀ x ∈ l, impl_clone_T x = some x) : impl_cloneAll_T l = some l := by
  refine impl_cloneAll_of (l.length + 1) l ?_
  unfold impl_cloneAll_R
  have hloop := lp_fold (P := Tryz.prog) (cfg := cfg) (T := RN) (n := l.length + 1) (d := 5) (f := 231) (r := 3) (na := 0) l (fun (a : List Term) x => a ++ [x]) (fun i a => impl_cloneAll_S3 a false l l.length i) (fun a => (.ext 0, impl_cloneAll_O3 a)) (fun i a => a.length = i)
    (fun a _ => by rw [impl_cloneAll_round3, lt_self]; rfl) (fun _ => rfl)
    (fun i x a hx hi hinv => by
      refine ⟨?_, by simp [hinv]⟩
      have happ : Nat.ble (a.length + 1) appMax = true := by rw [Nat.ble_eq, appMax]; omega
      rw [impl_cloneAll_round3, lt_t hi, idx_nat hx]
      simp only [br_t, qb_s, ih x (List.mem_of_getElem? hx), Term.eta, List.length_cons, List.length_nil, Nat.zero_add, happ]
      rw [wrap_succ (by omega)]) [] (l.length + 1) rfl (by omega)
  refine (qb_run (impl_cloneAll_L3_of hloop)).trans ?_
  simp only [isRetE_e, isExt_e, br_t, br_f]
  rw [show l.foldl (fun (a : List Term) x => a ++ [x]) [] = l by
    have : ∀ (l a : List Term), l.foldl (fun (a : List Term) x => a ++ [x]) a = a ++ l := by
      intro l
      induction l with
      | nil => simp
      | cons x l ih => intro a; rw [List.foldl_cons, ih]; simp
    simpa using this l []]

theorem impl_clone_t : ∀ t : Term, t.cost ≤ 1000000000 → impl_clone_T t = some t := by
  refine Term.ind ?_
  intro a ih hc
  rw [Term.cost_eq] at hc
  have hl := Term.costs_len a.kids
  refine impl_clone_of 0 a ?_
  unfold impl_clone_R
  rw [impl_cloneAll_of' a.kids (by omega) fun x hx => ih x hx (by have := Term.costs_mem hx; omega), qb_s, Term.eta]

theorem impl_right_t (t : Term) (hc : t.cost ≤ 1000000000) : impl_right_T t = some (if t.ok = true then t else zeroT) := by
  refine impl_right_of 0 t ?_
  unfold impl_right_R
  rw [impl_TermOk_t t (by omega), qb_s, impl_clone_t t hc, qb_s, Term.eta]
  cases t.ok <;> rfl
theorem spec_Atom_t (n : Int) : spec_Atom_T n = some (atomT n) := by
  refine spec_Atom_of 0 n ?_
  unfold spec_Atom_R
  rw [spec_l3Ok_t _ (by rw [Term.cost_eq]; simp [Term.costs, ByteArray.size]), qb_s, Term.eta]
  rfl
theorem impl_Atom_t (n : Int) : impl_Atom_T n = some (atomT n) := by
  refine impl_Atom_of 0 n ?_
  unfold impl_Atom_R
  rw [impl_right_t _ (by rw [Term.cost_eq]; simp [Term.costs, ByteArray.size]), qb_s, Term.eta]
  rfl
theorem spec_l2Has_t (l : List Term) (t : Term) (hl : Term.costs l < 4611686018427387904) : spec_l2Has_T l t = some (hasT l t) := by
  have hn := Term.costs_len l
  refine spec_l2Has_of (l.length + 1) l t ?_
  unfold spec_l2Has_R
  refine (qb_run (spec_l2Has_L2_if (lp_any l (fun x => decide (x = t)) (fun i => spec_l2Has_S2 false l false i t) (.ext 0, spec_l2Has_O2 false) (.ret, spec_l2Has_O2 true)
    (by rw [spec_l2Has_round2, lt_self]; rfl) rfl rfl
    (fun i x hx hi => by
      have := Term.costs_mem (List.mem_of_getElem? hx)
      rw [spec_l2Has_round2, lt_t hi, idx_nat hx]
      simp only [br_t, qb_s, spec_Same_t x (by omega)]
      rw [wrap_succ (by omega)]
      cases decide (x = t) <;> rfl) (l.length + 1) (by omega)))).trans ?_
  unfold hasT
  cases l.any (fun x => decide (x = t)) <;> rfl
theorem IndexFunc_hasTerm_1_t (a : List Term) (c0 : Term) (hl : a.length < 4611686018427387904) (ha : ∀ x ∈ a, x.cost < 4611686018427387904) : slices_IndexFunc_impl_Term_impl_Term_T a (.c (.fn 239 [.f (.ep .term c0 0)])) = some (idxOf (fun x : Term => decide (x = c0)) a) := by
  refine IndexFunc_hasTerm_1_of (a.length + 1) a c0 ?_
  unfold IndexFunc_hasTerm_1_R
  have hloop := lp_at (P := Tryz.prog) (cfg := cfg) (T := RN) (n := a.length + 1) (d := 5) (f := 159) (r := 2) (na := 0) a (fun x : Term => decide (x = c0)) (fun i => IndexFunc_hasTerm_1_S2 false a c0 0 a.length i) (.ext 0, IndexFunc_hasTerm_1_O2 0) (fun i => (.ret, IndexFunc_hasTerm_1_O2 i))
    (by rw [IndexFunc_hasTerm_1_round2, lt_self]; rfl) rfl (fun _ => rfl)
    (fun i x hx hi => by
      have hm := List.mem_of_getElem? hx
      rw [IndexFunc_hasTerm_1_round2, lt_t hi, idx_nat hx]
      simp only [br_t, qb_s, impl_Same_t x (ha x hm)]
      rw [wrap_succ (by omega)]
      cases decide (x = c0) <;> rfl) (a.length + 1) (by omega)
  unfold idxOf
  cases h : a.findIdx? (fun x : Term => decide (x = c0)) with
  | none => rw [h] at hloop; exact (qb_run (IndexFunc_hasTerm_1_L2_of hloop)).trans rfl
  | some i => rw [h] at hloop; exact (qb_run (IndexFunc_hasTerm_1_L2_of hloop)).trans rfl

theorem ContainsFunc_hasTerm_1_t (a : List Term) (c0 : Term) (hl : a.length < 4611686018427387904) (ha : ∀ x ∈ a, x.cost < 4611686018427387904) : slices_ContainsFunc_impl_Term_impl_Term_T a (.c (.fn 239 [.f (.ep .term c0 0)])) = some (a.any (fun x : Term => decide (x = c0))) := by
  refine ContainsFunc_hasTerm_1_of 0 a c0 ?_
  unfold ContainsFunc_hasTerm_1_R
  rw [IndexFunc_hasTerm_1_t a c0 hl ha, qb_s, idxOf_ge]


theorem impl_hasTerm_t (l : List Term) (t : Term) (hl : Term.costs l < 4611686018427387904) : impl_hasTerm_T l t = some (hasT l t) := by
  have hn := Term.costs_len l
  refine impl_hasTerm_of 0 l t ?_
  unfold impl_hasTerm_R
  rw [Term.eta, ContainsFunc_hasTerm_1_t l t (by omega) fun x hx => by have := Term.costs_mem hx; omega]
  rfl
theorem spec_MadeA_t (l : List Term) (n : Int) (hl : Term.costs l < 4611686018427387904) : spec_Made_T l (atomT n) = some (madeA l (atomT n)) := by
  obtain ⟨hk, hs, ho⟩ := atomT_kind n
  refine spec_Made_of 0 l (atomT n) ?_
  unfold spec_Made_R madeA
  rw [spec_TermOk_t _ (by rw [atomT_cost]; omega), qb_s]
  cases hok : (atomT n).ok with
  | false => rfl
  | true =>
    have h1 := ho hok
    rw [br_t, spec_l2Made_of 0 l (atomT n) (y := hasT l (atomT n)) (by
      unfold spec_l2Made_R
      rw [h1, spec_l2Has_t l _ hl]
      cases hasT l (atomT n) <;> rfl)]
    rfl
theorem impl_MadeA_t (l : List Term) (n : Int) (hl : Term.costs l < 4611686018427387904) : impl_Made_T l (atomT n) = some (madeA l (atomT n)) := by
  obtain ⟨hk, hs, ho⟩ := atomT_kind n
  refine impl_Made_of 0 l (atomT n) ?_
  unfold impl_Made_R madeA
  rw [impl_TermOk_t _ (by rw [atomT_cost]; omega), qb_s]
  cases hok : (atomT n).ok with
  | false => rfl
  | true =>
    have h1 := ho hok
    rw [br_t, impl_made_of 0 l (atomT n) (y := hasT l (atomT n)) (by
      unfold impl_made_R
      rw [h1, impl_hasTerm_t l _ hl]
      cases hasT l (atomT n) <;> rfl)]
    rfl
end Go.Proofs.YtoebfbhcbpiheaaGreatDoor
