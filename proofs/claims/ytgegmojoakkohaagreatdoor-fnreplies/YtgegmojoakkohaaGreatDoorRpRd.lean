/-
  Replies that are drawn: some answer, of small cost; a greeting that is read.
-/
import Derived.Test.YtgegmojoakkohaaGreatDoorRpDt
namespace Go.Proofs.YtgegmojoakkohaaGreatDoor
open Go.Vm
set_option linter.unusedVariables false
set_option linter.unusedSimpArgs false

theorem l8Named_t (t : Term) (ht : t.cost ≤ 400000000) (w : ByteArray) : spec_l8Named_T t w = some (if t.ok = true ∧ t.op = 3 ∧ t.kids.getD 0 zeroT = textT w then (t.kids.getD 1 zeroT, true, ()) else (zeroT, false, ())) := by
  refine spec_l8Named_of 0 t w ?_
  unfold spec_l8Named_R
  rw [spec_TermOk_t t (by omega), qb_s]
  by_cases ho : t.ok = true
  case neg => rw [if_neg fun g => ho g.1, (by simpa using ho : t.ok = false)]; rfl
  by_cases h3 : t.op = 3
  case neg => rw [if_neg fun g => h3 g.2.1, ho]; simp only [bne_int, h3, decide_false, Bool.not_false, Bool.not_true, br_t, br_f]; rfl
  obtain ⟨x, y, hxy⟩ := Term.two ho (by rw [h3]; rfl)
  have hx := Term.cost_ok (Term.ok_kids (x := x) ho (by rw [hxy]; simp))
  simp only [ho, h3, hxy, bne_int, decide_true, Bool.not_true, br_f, show idx [x, y] 0 = some x from rfl, show idx [x, y] 1 = some y from rfl, qb_s, spec_l8Text_t, spec_Same_t x (by omega), List.getD_cons_zero, List.getD_cons_succ, true_and, Term.eta]
  by_cases hw : x = textT w
  · rw [if_pos hw]; simp only [hw, decide_true, Bool.not_true, br_f]
  · rw [if_neg hw]; simp only [hw, decide_false, Bool.not_false, br_t]; rfl

theorem helloOf_cost (t : Term) : (helloOf t).1.cost ≤ 60199 := by
  unfold helloOf
  split
  · rename_i h
    exact kid_ok h.1 1
  · show zeroT.cost ≤ _; rw [zeroT_cost]; omega

theorem spec_HelloOf_t (t : Term) (ht : t.cost ≤ 400000000) : spec_HelloOf_T t = some ((helloOf t).1, (helloOf t).2, ()) := by
  refine spec_HelloOf_of 0 t ?_
  unfold spec_HelloOf_R helloOf
  rw [l8Named_t t ht, qb_s, show (⟨#[104, 101, 108, 108, 111]⟩ : ByteArray) = wHello from rfl]
  by_cases h : t.ok = true ∧ t.op = 3 ∧ t.kids.getD 0 zeroT = textT wHello
  · rw [if_pos h]
    have hc := kid_ok h.1 1
    simp only [Bool.not_true, br_f, bne_int]
    by_cases h4 : (t.kids.getD 1 zeroT).op = 4
    · rw [if_pos ⟨h.1, h.2.1, h.2.2, h4⟩]
      simp only [h4, decide_true, Bool.not_true, br_f, spec_l1Copy_t (t.kids.getD 1 zeroT) (by omega), qb_s, Term.eta]
    · rw [if_neg fun g => h4 g.2.2.2]
      simp only [h4, decide_false, Bool.not_false, br_t]
      rfl
  · rw [if_neg h, if_neg fun g => h ⟨g.1, g.2.1, g.2.2.1⟩]
    rfl

theorem impl_HelloOf_t (t : Term) (ht : t.cost ≤ 400000000) : impl_HelloOf_T t = some ((helloOf t).1, (helloOf t).2, ()) := by
  refine impl_HelloOf_of 0 t ?_
  unfold impl_HelloOf_R helloOf
  obtain ⟨c1, c2⟩ := twoP_cost t
  rw [impl_twoP_t, qb_s, impl_TermOk_t t (by omega), show (⟨#[104, 101, 108, 108, 111]⟩ : ByteArray) = wHello from rfl]
  simp only [impl_text_t, qb_s, impl_Same_t (twoP t).1 (by omega), impl_clone_t (twoP t).2.1 (by omega), Term.eta, bne_int]
  by_cases h3 : t.op = 3
  case neg =>
    rw [twoP_no h3, if_neg fun g => h3 g.2.1]
    rfl
  by_cases ho : t.ok = true
  case neg =>
    rw [if_neg fun g => ho g.1, (by simpa using ho : t.ok = false)]
    cases (twoP t).2.2 <;> rfl
  rw [twoP_ok ho h3, ho]
  simp only [Bool.not_true, br_f]
  by_cases hw : t.kids.getD 0 zeroT = textT wHello
  · simp only [hw, decide_true, Bool.not_true, br_f]
    by_cases h4 : (t.kids.getD 1 zeroT).op = 4
    · rw [if_pos ⟨trivial, h3, trivial, h4⟩]
      simp only [h4, decide_true, Bool.not_true, br_f]
    · rw [if_neg fun g => h4 g.2.2.2]
      simp only [h4, decide_false, Bool.not_false, br_t]
      rfl
  · rw [if_neg fun g => hw g.2.2.1]
    simp only [hw, decide_false, Bool.not_false, br_t]
    rfl

theorem spec_l8DrawAtom_t (b : List UInt8) (i h : Int) (hc : CurOk b i) : ∃ v i' h', spec_l8DrawAtom_H b i h = some (v, (b, i', h', ()), ()) ∧ CurOk b i' ∧ v.cost ≤ 70010 := by
  obtain ⟨k, i1, h1, e1, c1, _, _⟩ := spec_l1Below_t b i h hc 3
  refine ⟨atomT (IntKind.i64.wrap (20 + k)), i1, h1, spec_l8DrawAtom_of 0 b i h ?_, c1, by rw [atomT_cost]; omega⟩
  unfold spec_l8DrawAtom_R
  rw [e1, qb_s, spec_Atom_t, qb_s, Term.eta]

def hostL : List ByteArray := [⟨#[109, 120, 46, 97]⟩, ⟨#[109, 50, 46, 97]⟩, ⟨#[109, 120, 46, 98]⟩, ⟨#[120, 46, 109, 120, 46, 97]⟩, ⟨#[101, 118, 105, 108, 46, 101]⟩, ⟨#[97, 46, 98]⟩]
def untilL : List Int := [0, 5, 50, 100000]

theorem certs_two : ∀ h ∈ hostL, ∀ k ∈ [0, 1, 2], ∀ u ∈ untilL, (certT ⟨h, mkT 4 [atomT (10 + k)], u⟩).kids.length = 2 := by decide +kernel

theorem spec_l5DrawHost_m (b : List UInt8) (i h : Int) (hc : CurOk b i) : ∃ v i' h', spec_l5DrawHost_H b i h = some (v, (b, i', h', ()), ()) ∧ CurOk b i' ∧ v ∈ hostL := by
  obtain ⟨v, i1, h1, e1, c1, hv⟩ := spec_l1Pick_t b i h hc true hostL (by decide)
  exact ⟨v, i1, h1, spec_l5DrawHost_of 0 b i h (by unfold spec_l5DrawHost_R; rw [show spec_l1Pick_H true [⟨#[109, 120, 46, 97]⟩, ⟨#[109, 50, 46, 97]⟩, ⟨#[109, 120, 46, 98]⟩, ⟨#[120, 46, 109, 120, 46, 97]⟩, ⟨#[101, 118, 105, 108, 46, 101]⟩, ⟨#[97, 46, 98]⟩] b i h = _ from e1, qb_s]), c1, hv⟩

theorem hostL_size {v : ByteArray} (h : v ∈ hostL) : v.size ≤ 6 := by
  unfold hostL at h
  simp only [List.mem_cons, List.not_mem_nil, or_false] at h
  rcases h with rfl | rfl | rfl | rfl | rfl | rfl <;> decide

theorem spec_l4DrawRight_t (b : List UInt8) (i h : Int) (hc : CurOk b i) : ∃ v i' h', spec_l4DrawRight_H b i h = some (v, (b, i', h', ()), ()) ∧ CurOk b i' ∧ v.host.size ≤ 6 ∧ v.pub.cost ≤ 60199 ∧ (certT v).kids.length = 2 := by
  obtain ⟨s, i1, h1, e1, c1, hs⟩ := spec_l5DrawHost_m b i h hc
  obtain ⟨k, i2, h2, e2, c2, k0, k1⟩ := spec_l1Below_t b i1 h1 c1 3
  have k2 := k1 (by omega)
  obtain ⟨u, i3, h3, e3, c3, hu⟩ := spec_l1PickInt_t b i2 h2 c2 true untilL (by decide)
  have hw : IntKind.i64.wrap (10 + k) = 10 + k := wrap_id (by omega) (by omega)
  refine ⟨⟨s, mkT 4 [atomT (10 + k)], u⟩, i3, h3, spec_l4DrawRight_of 0 b i h ?_, c3, hostL_size hs, mkT_cost _ _, certs_two s hs k ?_ u hu⟩
  · unfold spec_l4DrawRight_R
    rw [e1, qb_s]; dsimp only
    rw [e2, qb_s]; dsimp only
    rw [hw, spec_Atom_t, qb_s, spec_Pub_t _ (by rw [atomT_cost]; omega), qb_s, show spec_l1PickInt_H true [0, 5, 50, 100000] b i2 h2 = _ from e3, qb_s, Term.eta]
  · have : k = 0 ∨ k = 1 ∨ k = 2 := by omega
    rcases this with rfl | rfl | rfl <;> simp

theorem spec_l4DrawTerm_t (b : List UInt8) (i h : Int) (hc : CurOk b i) : ∃ v i' h', spec_l4DrawTerm_H b i h = some (v, (b, i', h', ()), ()) ∧ CurOk b i' ∧ v.cost ≤ 70010 := by
  obtain ⟨c, i1, h1, e1, c1, hs, hp, hk⟩ := spec_l4DrawRight_t b i h hc
  obtain ⟨k, i2, h2, e2, c2, _, _⟩ := spec_l1Below_t b i1 h1 c1 8
  have hct := certT_cost c
  have hce := spec_CertTerm_t c (by omega) (by omega)
  have ha : ∀ k : Int, (atomT k).cost ≤ 400000000 := fun k => by rw [atomT_cost]; omega
  by_cases k0 : k = 0
  · obtain ⟨t, i3, h3, e3, c3, ht⟩ := spec_l1Draw_t b i2 h2 c2
    refine ⟨t, i3, h3, spec_l4DrawTerm_of 0 b i h ?_, c3, ht⟩
    unfold spec_l4DrawTerm_R
    rw [e1, qb_s]; dsimp only
    rw [hce, qb_s, e2, qb_s]; dsimp only
    rw [show (k == 0) = true by simp [k0], br_t, e3, qb_s, Term.eta]
  by_cases k1 : k = 1
  · obtain ⟨x, y, hxy⟩ : ∃ x y, (certT c).kids = [x, y] := by
      match hh : (certT c).kids, hk with
      | [x, y], _ => exact ⟨x, y, rfl⟩
    have hy : y.cost ≤ 60199 := by
      have := kid_cost (certT c) 1
      rw [hxy] at this
      exact Nat.le_trans this hct
    refine ⟨mkT 8 [atomT 2, y], i2, h2, spec_l4DrawTerm_of 0 b i h ?_, c2, Nat.le_trans (mkT_cost _ _) (by decide)⟩
    unfold spec_l4DrawTerm_R
    rw [e1, qb_s]; dsimp only
    rw [hce, qb_s, e2, qb_s]; dsimp only
    rw [show (k == 0) = false by simp [k0], br_f, show (k == 1) = true by simp [k1], br_t, spec_Atom_t, qb_s, hxy, show idx [x, y] 1 = some y from rfl, qb_s, spec_Sign_t _ _ (ha 2) (by omega), qb_s, Term.eta]
  by_cases k2 : k = 2
  · obtain ⟨t, i3, h3, e3, c3, ht⟩ := spec_l1DrawRight_t 2 (by omega) b i2 h2 c2
    have e3' : spec_l1DrawRight_H 2 b i2 h2 = some (t, (b, i3, h3, ()), ()) := e3
    refine ⟨mkT 8 [atomT 1, t], i3, h3, spec_l4DrawTerm_of 0 b i h ?_, c3, Nat.le_trans (mkT_cost _ _) (by decide)⟩
    unfold spec_l4DrawTerm_R
    rw [e1, qb_s]; dsimp only
    rw [hce, qb_s, e2, qb_s]; dsimp only
    rw [show (k == 0) = false by simp [k0], br_f, show (k == 1) = false by simp [k1], br_f, show (k == 2) = true by simp [k2], br_t, spec_Atom_t, qb_s, e3', qb_s]; dsimp only
    rw [spec_Sign_t _ _ (ha 1) (by omega), qb_s, Term.eta]
  · refine ⟨certT c, i2, h2, spec_l4DrawTerm_of 0 b i h ?_, c2, by omega⟩
    unfold spec_l4DrawTerm_R
    rw [e1, qb_s]; dsimp only
    rw [hce, qb_s, e2, qb_s]; dsimp only
    rw [show (k == 0) = false by simp [k0], br_f, show (k == 1) = false by simp [k1], br_f, show (k == 2) = false by simp [k2], br_f, Term.eta]

theorem spec_l8DrawReply_t (b : List UInt8) (i h : Int) (hc : CurOk b i) : ∃ e t i' h', spec_l8DrawReply_H b i h = some ((e, t, ()), (b, i', h', ()), ()) ∧ CurOk b i' ∧ e.cost ≤ 70010 ∧ t.cost ≤ 70010 := by
  obtain ⟨e, i1, h1, e1, c1, he⟩ := spec_l8DrawAtom_t b i h hc
  obtain ⟨c, i2, h2, e2, c2, hct⟩ := spec_l4DrawTerm_t b i1 h1 c1
  obtain ⟨s, i3, h3, e3, c3, hs⟩ := spec_l8DrawAtom_t b i2 h2 c2
  obtain ⟨k, i4, h4, e4, c4, _, _⟩ := spec_l1Below_t b i3 h3 c3 3
  obtain ⟨q, i5, h5, e5, c5, _, _⟩ := spec_l1Below_t b i4 h4 c4 6
  have hre := spec_Reply_t s (mkT 4 [e]) (atomT (IntKind.i64.wrap (10 + k))) c (by omega) (Nat.le_trans (mkT_cost _ _) (by decide)) (by rw [atomT_cost]; omega) (by omega)
  have hrc := replyT_cost s (mkT 4 [e]) (atomT (IntKind.i64.wrap (10 + k))) c
  by_cases q0 : q = 0
  · obtain ⟨a, i6, h6, e6, c6, ha⟩ := spec_l8DrawAtom_t b i5 h5 c5
    refine ⟨a, (replyT s (mkT 4 [e]) (atomT (IntKind.i64.wrap (10 + k))) c).1, i6, h6, spec_l8DrawReply_of 0 b i h ?_, c6, ha, by omega⟩
    unfold spec_l8DrawReply_R
    rw [e1, qb_s]; dsimp only
    rw [e2, qb_s]; dsimp only
    rw [e3, qb_s, spec_Pub_t e (by omega), qb_s]; dsimp only
    rw [e4, qb_s, spec_Atom_t, qb_s, hre, qb_s]; dsimp only
    rw [e5, qb_s, show (q == 0) = true by simp [q0], br_t, e6, qb_s]
    simp only [Term.eta]
  by_cases q1 : q = 1
  · obtain ⟨a, i6, h6, e6, c6, ha⟩ := spec_l1Draw_t b i5 h5 c5
    refine ⟨e, a, i6, h6, spec_l8DrawReply_of 0 b i h ?_, c6, he, ha⟩
    unfold spec_l8DrawReply_R
    rw [e1, qb_s]; dsimp only
    rw [e2, qb_s]; dsimp only
    rw [e3, qb_s, spec_Pub_t e (by omega), qb_s]; dsimp only
    rw [e4, qb_s, spec_Atom_t, qb_s, hre, qb_s]; dsimp only
    rw [e5, qb_s, show (q == 0) = false by simp [q0], br_f, show (q == 1) = true by simp [q1], br_t, e6, qb_s]
    simp only [Term.eta]
  · refine ⟨e, (replyT s (mkT 4 [e]) (atomT (IntKind.i64.wrap (10 + k))) c).1, i5, h5, spec_l8DrawReply_of 0 b i h ?_, c5, he, by omega⟩
    unfold spec_l8DrawReply_R
    rw [e1, qb_s]; dsimp only
    rw [e2, qb_s]; dsimp only
    rw [e3, qb_s, spec_Pub_t e (by omega), qb_s]; dsimp only
    rw [e4, qb_s, spec_Atom_t, qb_s, hre, qb_s]; dsimp only
    rw [e5, qb_s, show (q == 0) = false by simp [q0], br_f, show (q == 1) = false by simp [q1], br_f]
    simp only [Term.eta]

theorem cur0 {b : List UInt8} (hb : b.length ≤ 1048576) : CurOk b 0 := ⟨by omega, by omega, hb⟩

theorem spec_DrawHello_t (b : List UInt8) (hb : b.length ≤ 1048576) : ∃ t, spec_DrawHello_T b = some t ∧ t.cost ≤ 70010 := by
  obtain ⟨h0, e0⟩ := spec_l1New_t b (IntKind.i64.wrap (22143 + (b.length : Int))) hb
  obtain ⟨t, i1, h1, e1, c1, ht⟩ := spec_l1Draw_t b 0 h0 (cur0 hb)
  refine ⟨t, spec_DrawHello_of 4010 b ?_, ht⟩
  unfold spec_DrawHello_R
  refine (qb_run e0).trans ?_
  dsimp only
  rw [isRetE_e, br_f, isExt_e, br_t, e1, qb_s, Term.eta]

theorem spec_DrawDone_t (b : List UInt8) (hb : b.length ≤ 1048576) : ∃ t, spec_DrawDone_T b = some t ∧ t.cost ≤ 70010 := by
  obtain ⟨h0, e0⟩ := spec_l1New_t b (IntKind.i64.wrap (22143 + (b.length : Int))) hb
  obtain ⟨t, i1, h1, e1, c1, ht⟩ := spec_l1Draw_t b 0 h0 (cur0 hb)
  refine ⟨t, spec_DrawDone_of 4010 b ?_, ht⟩
  unfold spec_DrawDone_R
  refine (qb_run e0).trans ?_
  dsimp only
  rw [isRetE_e, br_f, isExt_e, br_t, e1, qb_s, Term.eta]

theorem spec_DrawHelloOf_t (b : List UInt8) (hb : b.length ≤ 1048576) : ∃ t, spec_DrawHelloOf_T b = some t ∧ t.cost ≤ 70010 := by
  obtain ⟨h0, e0⟩ := spec_l1New_t b (IntKind.i64.wrap (22143 + (b.length : Int))) hb
  obtain ⟨o, i1, h1, e1, c1⟩ := spec_l1Once_t b 0 h0 (cur0 hb) 3
  cases o with
  | true =>
    obtain ⟨t, i2, h2, e2, c2, ht⟩ := spec_l1Draw_t b i1 h1 c1
    refine ⟨t, spec_DrawHelloOf_of 4010 b ?_, ht⟩
    unfold spec_DrawHelloOf_R
    refine (qb_run e0).trans ?_
    dsimp only
    rw [isRetE_e, br_f, isExt_e, br_t, e1, qb_s, br_t, e2, qb_s, Term.eta]
  | false =>
    obtain ⟨t, i2, h2, e2, c2, ht⟩ := spec_l8DrawAtom_t b i1 h1 c1
    refine ⟨helloT t, spec_DrawHelloOf_of 4010 b ?_, Nat.le_trans (mkT_cost _ _) (by decide)⟩
    unfold spec_DrawHelloOf_R
    refine (qb_run e0).trans ?_
    dsimp only
    rw [isRetE_e, br_f, isExt_e, br_t, e1, qb_s, br_f, e2, qb_s, spec_Hello_t t (by omega), qb_s, Term.eta]

theorem spec_l1DrawTwo_t (b : List UInt8) (hb : b.length ≤ 1048576) : ∃ s t, spec_l1DrawTwo_T b = some (s, t, ()) ∧ s.cost ≤ 70010 ∧ t.cost ≤ 70010 := by
  obtain ⟨h0, e0⟩ := spec_l1New_t b (IntKind.i64.wrap (22143 + (b.length : Int))) hb
  obtain ⟨s, i1, h1, e1, c1, hs⟩ := spec_l1Draw_t b 0 h0 (cur0 hb)
  obtain ⟨o, i2, h2, e2, c2⟩ := spec_l1Once_t b i1 h1 c1 3
  cases o with
  | true =>
    refine ⟨s, s, spec_l1DrawTwo_of 4010 b ?_, hs, hs⟩
    unfold spec_l1DrawTwo_R
    refine (qb_run e0).trans ?_
    dsimp only
    rw [isRetE_e, br_f, isExt_e, br_t, e1, qb_s]; dsimp only
    rw [e2, qb_s, br_t, spec_l1Copy_t s (by omega), qb_s]
    simp only [Term.eta]
  | false =>
    obtain ⟨t, i3, h3, e3, c3, ht⟩ := spec_l1Draw_t b i2 h2 c2
    refine ⟨s, t, spec_l1DrawTwo_of 4010 b ?_, hs, ht⟩
    unfold spec_l1DrawTwo_R
    refine (qb_run e0).trans ?_
    dsimp only
    rw [isRetE_e, br_f, isExt_e, br_t, e1, qb_s]; dsimp only
    rw [e2, qb_s, br_f, e3, qb_s]
    simp only [Term.eta]

theorem spec_DrawBoth_t (b : List UInt8) (hb : b.length ≤ 1048576) : ∃ s t, spec_DrawBoth_T b = some (s, t, ()) ∧ s.cost ≤ 70010 ∧ t.cost ≤ 70010 := by
  obtain ⟨s, t, e, hs, ht⟩ := spec_l1DrawTwo_t b hb
  refine ⟨s, t, spec_DrawBoth_of 0 b ?_, hs, ht⟩
  unfold spec_DrawBoth_R
  rw [e, qb_s]
  simp only [Term.eta]

theorem spec_DrawReplyOf_t (b : List UInt8) (hb : b.length ≤ 1048576) : ∃ s t, spec_DrawReplyOf_T b = some (s, t, ()) ∧ s.cost ≤ 70010 ∧ t.cost ≤ 70010 := by
  obtain ⟨h0, e0⟩ := spec_l1New_t b (IntKind.i64.wrap (22143 + (b.length : Int))) hb
  obtain ⟨s, t, i1, h1, e1, c1, hs, ht⟩ := spec_l8DrawReply_t b 0 h0 (cur0 hb)
  refine ⟨s, t, spec_DrawReplyOf_of 4010 b ?_, hs, ht⟩
  unfold spec_DrawReplyOf_R
  refine (qb_run e0).trans ?_
  dsimp only
  rw [isRetE_e, br_f, isExt_e, br_t, e1, qb_s]
  simp only [Term.eta]

theorem spec_DrawReply_t (b : List UInt8) (hb : b.length ≤ 1048576) : ∃ s p k c, spec_DrawReply_T b = some (s, p, k, c, ()) ∧ s.cost ≤ 70010 ∧ p.cost ≤ 70010 ∧ k.cost ≤ 70010 ∧ c.cost ≤ 70010 := by
  obtain ⟨h0, e0⟩ := spec_l1New_t b (IntKind.i64.wrap (22143 + (b.length : Int))) hb
  obtain ⟨s, i1, h1, e1, c1, hs⟩ := spec_l8DrawAtom_t b 0 h0 (cur0 hb)
  obtain ⟨e, i2, h2, e2, c2, he⟩ := spec_l8DrawAtom_t b i1 h1 c1
  obtain ⟨k, i3, h3, e3, c3, _, _⟩ := spec_l1Below_t b i2 h2 c2 3
  obtain ⟨c, i4, h4, e4, c4, hct⟩ := spec_l4DrawTerm_t b i3 h3 c3
  obtain ⟨q, i5, h5, e5, c5, _, _⟩ := spec_l1Below_t b i4 h4 c4 8
  obtain ⟨d, i6, h6, e6, c6, hd⟩ := spec_l1Draw_t b i5 h5 c5
  have hm : (mkT 4 [e]).cost ≤ 70010 := Nat.le_trans (mkT_cost _ _) (by decide)
  have ha : (atomT (IntKind.i64.wrap (10 + k))).cost ≤ 70010 := by rw [atomT_cost]; omega
  have hof : ∀ s' p', spec_DrawReply_R 4010 b = some (s', p', atomT (IntKind.i64.wrap (10 + k)), c, ()) → s'.cost ≤ 70010 → p'.cost ≤ 70010 → ∃ s p k c, spec_DrawReply_T b = some (s, p, k, c, ()) ∧ s.cost ≤ 70010 ∧ p.cost ≤ 70010 ∧ k.cost ≤ 70010 ∧ c.cost ≤ 70010 :=
    fun s' p' h hs hp => ⟨s', p', _, c, spec_DrawReply_of 4010 b h, hs, hp, ha, hct⟩
  have hR : spec_DrawReply_R 4010 b = br (q == 0) (some (s, d, atomT (IntKind.i64.wrap (10 + k)), c, ())) (br (q == 1) (some (d, mkT 4 [e], atomT (IntKind.i64.wrap (10 + k)), c, ())) (some (s, mkT 4 [e], atomT (IntKind.i64.wrap (10 + k)), c, ()))) := by
    unfold spec_DrawReply_R
    refine (qb_run e0).trans ?_
    dsimp only
    rw [isRetE_e, br_f, isExt_e, br_t]
    simp only [e1, e2, e3, e4, e5, e6, qb_s, spec_Pub_t e (show e.cost ≤ 400000000 by omega), spec_Atom_t, Term.eta]
  by_cases q0 : q = 0
  · exact hof s d (by rw [hR, show (q == 0) = true by simp [q0], br_t]) hs hd
  by_cases q1 : q = 1
  · exact hof d (mkT 4 [e]) (by rw [hR, show (q == 0) = false by simp [q0], br_f, show (q == 1) = true by simp [q1], br_t]) hd hm
  · exact hof s (mkT 4 [e]) (by rw [hR, show (q == 0) = false by simp [q0], br_f, show (q == 1) = false by simp [q1], br_f]) hs hm

theorem spec_DrawProved_t (b : List UInt8) (hb : b.length ≤ 1048576) : ∃ e p c s host now, spec_DrawProved_T b = some (e, p, c, s, host, now, ()) ∧ e.cost ≤ 70010 ∧ p.cost ≤ 70010 ∧ c.cost ≤ 70010 ∧ s.cost ≤ 70010 := by
  obtain ⟨h0, e0⟩ := spec_l1New_t b (IntKind.i64.wrap (22143 + (b.length : Int))) hb
  obtain ⟨e, t, i1, h1, e1, c1, he, ht⟩ := spec_l8DrawReply_t b 0 h0 (cur0 hb)
  obtain ⟨r1, r2, r3, r4⟩ := replyOf_cost e t
  have hro := spec_ReplyOf_t e t (by omega) (by omega)
  generalize replyOf e t = r at r1 r2 r3 r4 hro
  obtain ⟨p, sh, ct, sg, bb⟩ := r
  dsimp only at r1 r2 r3 r4 hro
  obtain ⟨hst, i2, h2, e2, c2, _⟩ := spec_l5DrawHost_m b i1 h1 c1
  have hco := spec_CertOf_t ct (by omega)
  generalize certOf ct = co at hco
  obtain ⟨co, cb⟩ := co
  dsimp only at hco
  obtain ⟨o4, i3, h3, e3, c3⟩ := spec_l1Once_t b i2 h2 c2 4
  obtain ⟨n1, i4, h4, e4, c4, _⟩ := spec_l1PickInt_t b i3 h3 c3 true [0, 5, 6] (by decide)
  obtain ⟨n2, i5, h5, e5, c5, _⟩ := spec_l1PickInt_t b i2 h2 c2 true [0, 5, 6] (by decide)
  have hof : ∀ host now, spec_DrawProved_R 4010 b = some (e, p, ct, sg, host, now, ()) → ∃ e p c s host now, spec_DrawProved_T b = some (e, p, c, s, host, now, ()) ∧ e.cost ≤ 70010 ∧ p.cost ≤ 70010 ∧ c.cost ≤ 70010 ∧ s.cost ≤ 70010 :=
    fun host now h => ⟨e, p, ct, sg, host, now, spec_DrawProved_of 4010 b h, he, by omega, by omega, by omega⟩
  have hR : spec_DrawProved_R 4010 b = br cb (br (!o4) (some (e, p, ct, sg, co.host, n1, ())) (some (e, p, ct, sg, hst, n1, ()))) (some (e, p, ct, sg, hst, n2, ())) := by
    unfold spec_DrawProved_R
    refine (qb_run e0).trans ?_
    dsimp only
    rw [isRetE_e, br_f, isExt_e, br_t]
    simp only [e1, hro, e2, hco, e3, e4, e5, qb_s, Term.eta]
  cases cb with
  | false => exact hof hst n2 (by rw [hR, br_f])
  | true =>
    cases o4 with
    | false => exact hof co.host n1 (by rw [hR, br_t, Bool.not_false, br_t])
    | true => exact hof hst n1 (by rw [hR, br_t, Bool.not_true, br_f])

end Go.Proofs.YtgegmojoakkohaaGreatDoor
