/-
  Terms copied, and taken where they are right; atoms.
-/
import Derived.Test.YtgegmojoakkohaaGreatDoorMeTk
import Derived.Test.YtgegmojoakkohaaGreatDoorVm6
namespace Go.Proofs.YtgegmojoakkohaaGreatDoor
open Go.Vm
set_option linter.unusedVariables false
set_option linter.unusedSimpArgs false

theorem spec_l3Ok_t (t : Term) (hc : t.cost < 4611686018427387900) : spec_l3Ok_T t = some (if t.ok = true then t else zeroT) := by
  refine spec_l3Ok_of 0 t ?_
  unfold spec_l3Ok_R
  rw [spec_TermOk_t t hc, qb_s, Term.eta]
  cases t.ok <;> rfl
theorem impl_cloneAll_of' (l : List Term) (hl : l.length ≤ 1000000000) (ih : ∀ x ∈ l, impl_clone_T x = some x) : impl_cloneAll_T l = some l := by
  refine impl_cloneAll_of (l.length + 1) l ?_
  unfold impl_cloneAll_R
  have hloop := lp_fold (P := Tryz.prog) (cfg := cfg) (T := RN) (n := l.length + 1) (d := 5) (f := 132) (r := 3) (na := 0) l (fun (a : List Term) x => a ++ [x]) (fun i a => impl_cloneAll_S3 a false l l.length i) (fun a => (.ext 0, impl_cloneAll_O3 a)) (fun i a => a.length = i)
    (fun a _ => by rw [impl_cloneAll_round3, lt_self]; rfl) (fun _ => rfl)
    (fun i x a hx hi hinv => by
      refine ⟨?_, by simp [hinv]⟩
      have happ : Nat.ble (a.length + 1) appMax = true := by rw [Nat.ble_eq, appMax]; omega
      rw [impl_cloneAll_round3, lt_t hi, idx_nat hx]
      simp only [br_t, qb_s, ih x (List.mem_of_getElem? hx), Term.eta, List.length_cons, List.length_nil, Nat.zero_add, happ]
      rw [wrap_succ (by omega)]) [] (l.length + 1) rfl (by omega)
  refine (qb_run (impl_cloneAll_L3_of hloop)).trans ?_
  simp only [isRetE_e, isExt_e, br_t, br_f]
  rw [show l.foldl (fun (a : List Term) x => a ++ [x]) [] = l by
    have : ∀ (l a : List Term), l.foldl (fun (a : List Term) x => a ++ [x]) a = a ++ l := by
      intro l
      induction l with
      | nil => simp
      | cons x l ih => intro a; rw [List.foldl_cons, ih]; simp
    simpa using this l []]

theorem impl_clone_t : ∀ t : Term, t.cost ≤ 1000000000 → impl_clone_T t = some t := by
  refine Term.ind ?_
  intro a ih hc
  rw [Term.cost_eq] at hc
  have hl := Term.costs_len a.kids
  refine impl_clone_of 0 a ?_
  unfold impl_clone_R
  rw [impl_cloneAll_of' a.kids (by omega) fun x hx => ih x hx (by have := Term.costs_mem hx; omega), qb_s, Term.eta]

theorem impl_right_t (t : Term) (hc : t.cost ≤ 1000000000) : impl_right_T t = some (if t.ok = true then t else zeroT) := by
  refine impl_right_of 0 t ?_
  unfold impl_right_R
  rw [impl_TermOk_t t (by omega), qb_s, impl_clone_t t hc, qb_s, Term.eta]
  cases t.ok <;> rfl
theorem okT_br (t : Term) (hc : t.cost < 4611686018427387900) : (qb (spec_TermOk_T t) fun x => br (!x) (some (Term.mk 0 0 (ByteArray.mk #[]) [])) (some t)) = some (if t.ok = true then t else zeroT) := by
  rw [spec_TermOk_t t hc, qb_s]
  cases t.ok <;> rfl
theorem spec_Atom_t (n : Int) : spec_Atom_T n = some (atomT n) := by
  refine spec_Atom_of 0 n ?_
  unfold spec_Atom_R
  first
  | (rw [spec_l3Ok_t _ (by rw [Term.cost_eq]; simp [Term.costs, ByteArray.size]), qb_s, Term.eta]; rfl)
  | exact okT_br _ (by rw [Term.cost_eq]; simp [Term.costs, ByteArray.size])
theorem impl_Atom_t (n : Int) : impl_Atom_T n = some (atomT n) := by
  refine impl_Atom_of 0 n ?_
  unfold impl_Atom_R
  rw [impl_right_t _ (by rw [Term.cost_eq]; simp [Term.costs, ByteArray.size]), qb_s, Term.eta]
  rfl
theorem copy_fold : ∀ (l a : List Term), l.foldl (fun (a : List Term) x => a ++ [x]) a = a ++ l
  | [], a => by simp
  | x :: l, a => by rw [List.foldl_cons, copy_fold l]; simp

theorem spec_l1Copy_t : ∀ t : Term, t.cost ≤ 1000000000 → spec_l1Copy_T t = some t := by
  refine Term.ind ?_
  intro t ih hc
  rw [Term.cost_eq] at hc
  have hl := Term.costs_len t.kids
  refine spec_l1Copy_of (t.kids.length + 1) t ?_
  unfold spec_l1Copy_R
  have hloop := lp_fold (P := Tryz.prog) (cfg := cfg) (T := RN) (n := t.kids.length + 1) (d := 5) (f := 84) (r := 3) (na := 0) t.kids (fun (a : List Term) x => a ++ [x]) (fun i a => spec_l1Copy_S3 i t 0 0 (ByteArray.mk #[]) [] t.op t.n t.s a) (fun a => (.ext 0, spec_l1Copy_O3 0 0 (ByteArray.mk #[]) [] t.op t.n t.s a)) (fun i a => a.length = i)
    (fun a _ => by rw [spec_l1Copy_round3, lt_self]; rfl) (fun _ => rfl)
    (fun i x a hx hi hinv => by
      refine ⟨?_, by simp [hinv]⟩
      have happ : Nat.ble (a.length + 1) appMax = true := by rw [Nat.ble_eq, appMax]; omega
      rw [spec_l1Copy_round3, lt_t hi, idx_nat hx]
      have hm := List.mem_of_getElem? hx
      simp only [br_t, qb_s, ih x hm (by have := Term.costs_mem hm; omega), Term.eta, List.length_cons, List.length_nil, Nat.zero_add, happ]
      rw [wrap_succ (by omega)]) [] (t.kids.length + 1) rfl (by omega)
  refine (qb_run (spec_l1Copy_L3_of hloop)).trans ?_
  rw [copy_fold]
  exact some_congr (Term.eta t)
end Go.Proofs.YtgegmojoakkohaaGreatDoor
