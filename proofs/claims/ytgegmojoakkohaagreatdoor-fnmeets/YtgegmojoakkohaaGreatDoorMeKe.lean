/-
  Keys: pairs, open halves, hashes, what is signed.
-/
import Derived.Test.YtgegmojoakkohaaGreatDoorMeKc
import Derived.Test.YtgegmojoakkohaaGreatDoorVm6
namespace Go.Proofs.YtgegmojoakkohaaGreatDoor
open Go.Vm
set_option linter.unusedVariables false
set_option linter.unusedSimpArgs false

theorem two_cost (op : Int) (a b : Term) : (⟨op, 0, ⟨#[]⟩, [a, b]⟩ : Term).cost = 2 + a.cost + b.cost := by
  rw [Term.cost_eq]
  simp only [Term.costs]
  show 0 + _ = _
  omega

theorem one_cost (op : Int) (a : Term) : (⟨op, 0, ⟨#[]⟩, [a]⟩ : Term).cost = 1 + a.cost := by
  rw [Term.cost_eq]
  simp only [Term.costs]
  show 0 + _ = _
  omega

theorem spec_l3Two_t (op : Int) (a b : Term) (ha : a.cost ≤ 400000000) (hb : b.cost ≤ 400000000) : spec_l3Two_T op a b = some (mkT op [a, b]) := by
  refine spec_l3Two_of 0 op a b ?_
  unfold spec_l3Two_R
  simp only [spec_l1Copy_t a (by omega), spec_l1Copy_t b (by omega), qb_s, Term.eta]
  first
  | (rw [spec_l3Ok_t _ (by rw [two_cost]; omega), qb_s]; rfl)
  | exact okT_br _ (by rw [two_cost]; omega)
theorem spec_Pair_t (a b : Term) (ha : a.cost ≤ 400000000) (hb : b.cost ≤ 400000000) : spec_Pair_T a b = some (mkT 3 [a, b]) := by
  refine spec_Pair_of 0 a b ?_
  unfold spec_Pair_R
  rw [spec_l3Two_t 3 a b ha hb, qb_s, Term.eta]
theorem impl_Pair_t (a b : Term) (ha : a.cost ≤ 400000000) (hb : b.cost ≤ 400000000) : impl_Pair_T a b = some (mkT 3 [a, b]) := by
  refine impl_Pair_of 0 a b ?_
  unfold impl_Pair_R
  simp only [Term.eta]
  rw [impl_right_t _ (by rw [two_cost]; omega), qb_s]
  rfl
theorem spec_Sign_t (a b : Term) (ha : a.cost ≤ 400000000) (hb : b.cost ≤ 400000000) : spec_Sign_T a b = some (mkT 8 [a, b]) := by
  refine spec_Sign_of 0 a b ?_
  unfold spec_Sign_R
  rw [spec_l3Two_t 8 a b ha hb, qb_s, Term.eta]
theorem impl_Sign_t (a b : Term) (ha : a.cost ≤ 400000000) (hb : b.cost ≤ 400000000) : impl_Sign_T a b = some (mkT 8 [a, b]) := by
  refine impl_Sign_of 0 a b ?_
  unfold impl_Sign_R
  simp only [Term.eta]
  rw [impl_right_t _ (by rw [two_cost]; omega), qb_s]
  rfl
theorem spec_Pub_t (a : Term) (ha : a.cost ≤ 400000000) : spec_Pub_T a = some (mkT 4 [a]) := by
  refine spec_Pub_of 0 a ?_
  unfold spec_Pub_R
  simp only [spec_l1Copy_t a (by omega), qb_s, Term.eta]
  first
  | (rw [spec_l3Ok_t _ (by rw [one_cost]; omega), qb_s]; rfl)
  | exact okT_br _ (by rw [one_cost]; omega)
theorem impl_Pub_t (a : Term) (ha : a.cost ≤ 400000000) : impl_Pub_T a = some (mkT 4 [a]) := by
  refine impl_Pub_of 0 a ?_
  unfold impl_Pub_R
  simp only [Term.eta]
  rw [impl_right_t _ (by rw [one_cost]; omega), qb_s]
  rfl
theorem impl_Hash_t (a : Term) (ha : a.cost ≤ 400000000) : impl_Hash_T a = some (mkT 6 [a]) := by
  refine impl_Hash_of 0 a ?_
  unfold impl_Hash_R
  simp only [Term.eta]
  rw [impl_right_t _ (by rw [one_cost]; omega), qb_s]
  rfl
theorem impl_Signed_t (p t : Term) (hp : p.cost ≤ 400000000) (ht : t.cost ≤ 400000000) : impl_Signed_T p t = some ((signed p t).1, (signed p t).2, ()) := by
  refine impl_Signed_of 0 p t ?_
  unfold impl_Signed_R
  rw [impl_TermOk_t p (by omega), impl_TermOk_t t (by omega)]
  simp only [qb_s]
  by_cases h0 : (signed p t).2 = true
  · obtain ⟨h1, h2, x, y, hk, hy, hyo⟩ := signed_some h0
    have hyc := Term.cost_ok hyo
    have hp' : p = pubT x := by
      unfold signed at h0
      split at h0
      · rename_i hc; rw [hk] at hc; exact hc.2.2
      · cases h0
    have hpo := Term.pub_ok h1 hk
    have hxc := Term.cost_ok (Term.ok_kids (x := x) h1 (by rw [hk]; simp))
    rw [h0, hy, hk, show idx [x, y] 0 = some x from rfl, show idx [x, y] 1 = some y from rfl, hp', hpo, h1, show (pubT x).kids = [x] from rfl, show idx [x] 0 = some x from rfl, show (pubT x).op = 4 from rfl, h2]
    simp only [qb_s, impl_Same_t x (by omega), impl_clone_t y (by omega), Term.eta, decide_true]
    rfl
  · have hf : (signed p t).2 = false := by simpa using h0
    rw [signed_none hf]
    by_cases h4 : p.op = 4
    case neg => simp only [h4, bne_int, decide_false, Bool.not_false, br_t]; simp [zeroT]
    by_cases h5 : p.ok = true
    case neg => simp only [h4, (by simpa using h5 : p.ok = false), bne_int, decide_true, Bool.not_false, Bool.not_true, br_t, br_f]; simp [zeroT]
    by_cases h2 : t.op = 8
    case neg => simp only [h4, h5, h2, bne_int, decide_true, decide_false, Bool.not_false, Bool.not_true, br_t, br_f]; simp [zeroT]
    by_cases h1 : t.ok = true
    case neg => simp only [h4, h5, h2, (by simpa using h1 : t.ok = false), bne_int, decide_true, decide_false, Bool.not_false, Bool.not_true, br_t, br_f]; simp [zeroT]
    obtain ⟨x, y, hk⟩ := Term.two h1 (by rw [h2]; rfl)
    obtain ⟨k, hpk, hko⟩ := Term.pub_form h5 h4
    have hxc := Term.cost_ok (Term.ok_kids (x := x) h1 (by rw [hk]; simp))
    rw [hk, hpk, show idx [x, y] 0 = some x from rfl, show idx [x, y] 1 = some y from rfl, show (pubT k).kids = [k] from rfl, show idx [k] 0 = some k from rfl, show (pubT k).op = 4 from rfl, h2, h1, ← hpk, h5]
    have hne : ¬ x = k := by
      intro e
      subst e
      unfold signed at hf
      rw [if_pos ⟨h1, h2, by rw [hk]; exact hpk⟩] at hf
      cases hf
    simp only [qb_s, impl_Same_t x (by omega), hne, decide_false]
    rfl
theorem impl_Both_t (a b : Term) (ha : a.cost ≤ 400000000) (hb : b.cost ≤ 400000000) : impl_Both_T a b = some (bothT a b) := by
  refine impl_Both_of 0 a b ?_
  unfold impl_Both_R
  have := mkT_cost 3 [a, b]
  rw [impl_Pair_t a b ha hb, qb_s, impl_Hash_t _ (by omega), qb_s, Term.eta]
  rfl
theorem impl_text_t (s : ByteArray) : impl_text_T s = some (textT s) := impl_text_of 0 s rfl
theorem impl_twoOf_t (t : Term) : impl_twoOf_T t = some (if t.op = 3 ∧ t.kids.length = 2 then (t.kids.getD 0 zeroT, t.kids.getD 1 zeroT, true, ()) else (zeroT, zeroT, false, ())) := by
  refine impl_twoOf_of 0 t ?_
  unfold impl_twoOf_R
  by_cases h3 : t.op = 3
  case neg => simp only [h3, bne_int, decide_false, Bool.not_false, br_t]; simp [zeroT]
  by_cases h2 : t.kids.length = 2
  case neg =>
    rw [if_neg (fun h => h2 h.2), show ((t.kids.length : Int) != 2) = true by simp; omega]
    cases (t.op != 3) <;> rfl
  obtain ⟨x, y, hk⟩ : ∃ x y, t.kids = [x, y] := by
    match hk : t.kids, h2 with
    | [x, y], _ => exact ⟨x, y, rfl⟩
  rw [if_pos ⟨h3, h2⟩, hk, h3, show idx [x, y] 0 = some x from rfl, show idx [x, y] 1 = some y from rfl]
  simp only [qb_s, Term.eta]
  rfl
end Go.Proofs.YtgegmojoakkohaaGreatDoor
