/-
  What two sides agree upon, what is sealed, greetings and replies.
-/
import Derived.Test.YtgegmojoakkohaaGreatDoorMeCe
import Derived.Test.YtgegmojoakkohaaGreatDoorVm6
namespace Go.Proofs.YtgegmojoakkohaaGreatDoor
open Go.Vm
set_option linter.unusedVariables false
set_option linter.unusedSimpArgs false

theorem impl_Agree_t (s p : Term) (hs : s.cost ≤ 400000000) (hp : p.cost ≤ 400000000) : impl_Agree_T s p = some ((agree s p).1, (agree s p).2, ()) := by
  refine impl_Agree_of 0 s p ?_
  unfold impl_Agree_R agree
  rw [impl_TermOk_t p (by omega)]
  by_cases h4 : p.op = 4
  case neg => rw [if_neg fun g => h4 g.1]; simp only [h4, bne_int, decide_false, Bool.not_false, br_t]; rfl
  by_cases h1 : p.ok = true
  case neg => rw [if_neg fun g => h1 g.2]; simp only [h4, (by simpa using h1 : p.ok = false), bne_int, decide_true, Bool.not_true, Bool.not_false, br_t, br_f, qb_s]; rfl
  obtain ⟨k, hk⟩ := Term.one h1 (by rw [h4]; rfl)
  have hkc := Term.cost_ok (Term.ok_kids (x := k) h1 (by rw [hk]; simp))
  rw [if_pos ⟨h4, h1⟩]
  simp only [h4, h1, bne_int, decide_true, Bool.not_true, br_f, qb_s, hk, show idx [k] 0 = some k from rfl, impl_Before_t k (by omega), Term.eta, List.getD_cons_zero, beq_int]
  cases Term.before k s with
  | true => rw [br_t, impl_right_t _ (by rw [two_cost]; omega)]; rfl
  | false => rw [br_f, impl_right_t _ (by rw [two_cost]; omega)]; rfl
theorem impl_KeyOf_t (t : Term) (n : Int) (ht : t.cost ≤ 400000000) (h0 : -9223372036854775808 ≤ n) (h1 : n ≤ 9223372036854775807) : impl_KeyOf_T t n = some (keyT t n) := by
  refine impl_KeyOf_of 0 t n ?_
  have hsz := itoaB_size h0 h1
  have hm := mkT_cost 3 [t, textT (itoaB n)]
  unfold impl_KeyOf_R
  rw [impl_digits_t n h0 h1, qb_s, impl_Pair_t t _ ht (by rw [textT_cost]; omega), qb_s, impl_Hash_t _ (by omega), qb_s, Term.eta]
  rfl
theorem impl_Seal_t (k : Term) (n : Int) (b : Term) (hk : k.cost ≤ 400000000) (hb : b.cost ≤ 400000000) (h0 : -9223372036854775808 ≤ n) (h1 : n ≤ 9223372036854775807) : impl_Seal_T k n b = some (sealT k n b) := by
  refine impl_Seal_of 0 k n b ?_
  have hsz := itoaB_size h0 h1
  have hm := mkT_cost 3 [textT (itoaB n), b]
  unfold impl_Seal_R
  rw [impl_digits_t n h0 h1, qb_s, impl_Pair_t _ b (by rw [textT_cost]; omega) hb, qb_s]
  simp only [Term.eta]
  rw [impl_right_t _ (by rw [two_cost]; omega), qb_s]
  rfl
theorem impl_Open_t (k : Term) (n : Int) (t : Term) (hk : k.cost ≤ 400000000) (ht : t.cost ≤ 400000000) (h0 : -9223372036854775808 ≤ n) (h1 : n ≤ 9223372036854775807) : impl_Open_T k n t = some ((openT k n t).1, (openT k n t).2, ()) := by
  refine impl_Open_of 0 k n t ?_
  unfold impl_Open_R openT
  rw [impl_TermOk_t t (by omega), impl_digits_t n h0 h1]
  by_cases h7 : t.op = 7
  case neg => rw [if_neg fun g => h7 g.2.1]; simp only [h7, bne_int, decide_false, Bool.not_false, br_t]; rfl
  by_cases ho : t.ok = true
  case neg => rw [if_neg fun g => ho g.1]; simp only [h7, (by simpa using ho : t.ok = false), bne_int, decide_true, Bool.not_true, Bool.not_false, br_t, br_f, qb_s]; rfl
  obtain ⟨x, y, hxy⟩ := Term.two ho (by rw [h7]; rfl)
  have hx := Term.cost_ok (Term.ok_kids (x := x) ho (by rw [hxy]; simp))
  have hyo : y.ok = true := Term.ok_kids ho (by rw [hxy]; simp)
  simp only [h7, ho, hxy, bne_int, decide_true, Bool.not_true, br_f, qb_s, show idx [x, y] 0 = some x from rfl, show idx [x, y] 1 = some y from rfl, impl_Same_t x (by omega), List.getD_cons_zero, List.getD_cons_succ, true_and]
  by_cases hxk : x = k
  case neg => rw [if_neg fun g => hxk g.1]; simp only [hxk, decide_false, Bool.not_false, br_t]; rfl
  by_cases h3 : y.op = 3
  case neg => rw [if_neg fun g => h3 g.2.1]; simp only [hxk, h3, decide_true, decide_false, Bool.not_true, Bool.not_false, br_t, br_f]; rfl
  obtain ⟨a, b, hab⟩ := Term.two hyo (by rw [h3]; rfl)
  have hac := Term.cost_ok (Term.ok_kids (x := a) hyo (by rw [hab]; simp))
  have hbc := Term.cost_ok (Term.ok_kids (x := b) hyo (by rw [hab]; simp))
  simp only [hxk, h3, hab, decide_true, Bool.not_true, br_f, qb_s, show idx [a, b] 0 = some a from rfl, show idx [a, b] 1 = some b from rfl, impl_Same_t a (by omega), impl_clone_t b (by omega), Term.eta, List.getD_cons_zero, List.getD_cons_succ, true_and]
  by_cases hn : a = textT (itoaB n)
  · rw [if_pos hn]; simp only [hn, decide_true, Bool.not_true, br_f]
  · rw [if_neg hn]; simp only [hn, decide_false, Bool.not_false, br_t]; rfl
theorem impl_Hello_t (e : Term) (he : e.cost ≤ 400000000) : impl_Hello_T e = some (helloT e) := by
  refine impl_Hello_of 0 e ?_
  have hm := mkT_cost 4 [e]
  unfold impl_Hello_R
  rw [impl_text_t, qb_s, impl_Pub_t e he, qb_s, impl_Pair_t _ _ (by rw [textT_cost]; decide) (by omega), qb_s, Term.eta]
  rfl
theorem impl_Done_t (t : Term) (ht : t.cost ≤ 400000000) : impl_Done_T t = some (doneT t) := by
  refine impl_Done_of 0 t ?_
  have hm : (keyT t 1).cost ≤ 60199 := mkT_cost _ _
  unfold impl_Done_R
  rw [impl_KeyOf_t t 1 ht (by omega) (by omega), qb_s, impl_text_t, qb_s, impl_Seal_t _ 0 _ (by omega) (by rw [textT_cost]; decide) (by omega) (by omega), qb_s, Term.eta]
  rfl
theorem impl_Reply_t (s pub key cert : Term) (hs : s.cost ≤ 400000000) (hp : pub.cost ≤ 400000000) (hk : key.cost ≤ 400000000) (hc : cert.cost ≤ 400000000) : impl_Reply_T s pub key cert = some ((replyT s pub key cert).1, (replyT s pub key cert).2, ()) := by
  refine impl_Reply_of 0 s pub key cert ?_
  have ha := agree_cost s pub
  have h4 := mkT_cost 4 [s]
  have hb : (bothT pub (mkT 4 [s])).cost ≤ 60199 := mkT_cost _ _
  have h8 := mkT_cost 8 [key, bothT pub (mkT 4 [s])]
  have h3 := mkT_cost 3 [cert, mkT 8 [key, bothT pub (mkT 4 [s])]]
  have hkk : (keyT (agree s pub).1 0).cost ≤ 60199 := mkT_cost _ _
  have h7 : (sealT (keyT (agree s pub).1 0) 0 (mkT 3 [cert, mkT 8 [key, bothT pub (mkT 4 [s])]])).cost ≤ 60199 := mkT_cost _ _
  have h9 := mkT_cost 3 [mkT 4 [s], sealT (keyT (agree s pub).1 0) 0 (mkT 3 [cert, mkT 8 [key, bothT pub (mkT 4 [s])]])]
  unfold impl_Reply_R
  rw [impl_Agree_t s pub hs hp, qb_s]
  dsimp only
  rw [impl_Pub_t s hs, qb_s, impl_Both_t pub _ hp (by omega), qb_s, impl_Sign_t key _ hk (by omega), qb_s, impl_Pair_t cert _ hc (by omega), qb_s, impl_text_t, qb_s, impl_KeyOf_t _ 0 (by omega) (by omega) (by omega), qb_s,
    impl_Seal_t _ 0 _ (by omega) (by omega) (by omega) (by omega), qb_s, impl_Pair_t _ _ (by omega) (by omega), qb_s, impl_Pair_t _ _ (by rw [textT_cost]; decide) (by omega), qb_s]
  unfold replyT
  rw [show mkT 3 [textT ⟨#[114, 101, 112, 108, 121]⟩, mkT 3 [mkT 4 [s], sealT (keyT (agree s pub).1 0) 0 (mkT 3 [cert, mkT 8 [key, bothT pub (mkT 4 [s])]])]] = replyRaw s pub key cert from rfl]
  simp only [Term.eta, bne_int]
  by_cases h2 : (agree s pub).2 = true
  case neg => rw [if_neg fun g => h2 g.1]; simp only [(by simpa using h2 : (agree s pub).2 = false), Bool.not_false, br_t]; rfl
  by_cases h5 : (replyRaw s pub key cert).op = 3
  case neg => rw [if_neg fun g => h5 g.2]; simp only [h2, h5, decide_false, Bool.not_false, Bool.not_true, br_t, br_f]; rfl
  rw [if_pos ⟨h2, h5⟩]
  simp only [h2, h5, decide_true, Bool.not_true, br_f]
theorem impl_twoP_t (t : Term) : impl_twoOf_T t = some ((twoP t).1, (twoP t).2.1, (twoP t).2.2, ()) := by
  rw [impl_twoOf_t]
  unfold twoP
  split <;> rfl

theorem impl_ReplyOf_t (e t : Term) (he : e.cost ≤ 400000000) (ht : t.cost ≤ 400000000) : impl_ReplyOf_T e t = some ((replyOf e t).1, (replyOf e t).2.1, (replyOf e t).2.2.1, (replyOf e t).2.2.2.1, (replyOf e t).2.2.2.2, ()) := by
  refine impl_ReplyOf_of 0 e t ?_
  obtain ⟨c1, c2⟩ := twoP_cost t
  obtain ⟨c3, c4⟩ := twoP_cost (twoP t).2.1
  have ca := agree_cost e (twoP (twoP t).2.1).1
  have ck : (keyT (agree e (twoP (twoP t).2.1).1).1 0).cost ≤ 60199 := mkT_cost _ _
  have co := openT_cost (keyT (agree e (twoP (twoP t).2.1).1).1 0) 0 (twoP (twoP t).2.1).2.1
  obtain ⟨c5, c6⟩ := twoP_cost (openT (keyT (agree e (twoP (twoP t).2.1).1).1 0) 0 (twoP (twoP t).2.1).2.1).1
  unfold impl_ReplyOf_R
  simp only [impl_twoP_t, qb_s, impl_Agree_t e (twoP (twoP t).2.1).1 he (by omega), impl_KeyOf_t (agree e (twoP (twoP t).2.1).1).1 0 (by omega) (by omega) (by omega), impl_Open_t (keyT (agree e (twoP (twoP t).2.1).1).1 0) 0 (twoP (twoP t).2.1).2.1 (by omega) (by omega) (by omega) (by omega),
    impl_TermOk_t t (by omega), impl_text_t, impl_Same_t (twoP t).1 (by omega), impl_clone_t (twoP (twoP t).2.1).1 (by omega), impl_clone_t (twoP (openT (keyT (agree e (twoP (twoP t).2.1).1).1 0) 0 (twoP (twoP t).2.1).2.1).1).1 (by omega), impl_clone_t (twoP (openT (keyT (agree e (twoP (twoP t).2.1).1).1 0) 0 (twoP (twoP t).2.1).2.1).1).2.1 (by omega), Term.eta]
  rw [replyOf_two, show (⟨#[114, 101, 112, 108, 121]⟩ : ByteArray) = wReply from rfl]
  generalize openT (keyT (agree e (twoP (twoP t).2.1).1).1 0) 0 (twoP (twoP t).2.1).2.1 = o
  generalize agree e (twoP (twoP t).2.1).1 = a
  generalize twoP (twoP t).2.1 = x1
  generalize twoP t = x
  generalize twoP o.1 = x5
  obtain ⟨w, r, b1⟩ := x
  obtain ⟨p, c, b2⟩ := x1
  obtain ⟨a, b3⟩ := a
  obtain ⟨o, b4⟩ := o
  obtain ⟨u, v, b5⟩ := x5
  simp only
  generalize t.ok = b6
  by_cases hw : w = textT wReply
  · simp only [hw, decide_true]
    cases b1 <;> cases b2 <;> cases b3 <;> cases b4 <;> cases b5 <;> cases b6 <;> rfl
  · simp only [hw, decide_false]
    cases b1 <;> cases b2 <;> cases b3 <;> cases b4 <;> cases b5 <;> cases b6 <;> rfl
end Go.Proofs.YtgegmojoakkohaaGreatDoor
