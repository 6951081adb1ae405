/-
  Calls of the reference that hear: some answer, within bounds.
-/
import Derived.Test.YtgegmojoakkohaaGreatDoorNdCr
namespace Go.Proofs.YtgegmojoakkohaaGreatDoor
open Go.Vm
set_option linter.unusedVariables false
set_option linter.unusedSimpArgs false

theorem spec_Line_t (t : Term) (ht : t.cost ≤ 400000000) : ∃ s b, spec_Line_T t = some (s, b, ()) := by
  by_cases h2 : t.op = 2
  · cases ho : t.ok with
    | true => exact ⟨t.s, true, spec_Line_of 0 t (by unfold spec_Line_R; simp only [bne_int, h2, decide_true, Bool.not_true, br_f, spec_TermOk_t t (by omega), qb_s, ho])⟩
    | false => exact ⟨⟨#[]⟩, false, spec_Line_of 0 t (by unfold spec_Line_R; simp only [bne_int, h2, decide_true, Bool.not_true, br_f, spec_TermOk_t t (by omega), qb_s, ho, Bool.not_false, br_t])⟩
  · exact ⟨⟨#[]⟩, false, spec_Line_of 0 t (by unfold spec_Line_R; simp only [bne_int, h2, decide_false, Bool.not_false, br_t])⟩

theorem spec_ClientLine_t (c : Client) (t : Term) (hc : CB c) (ht : t.cost ≤ 400000000) : ∃ s b, spec_ClientLine_T c t = some (s, b, ()) := by
  obtain ⟨h1, h2, h3, h4, h5, h6⟩ := hc
  obtain ⟨s, b, e⟩ := spec_Line_t t ht
  have ho := openT_cost (keyT c.share 2) c.inn t
  obtain ⟨s2, b2, e2⟩ := spec_Line_t (openT (keyT c.share 2) c.inn t).1 (by omega)
  cases htls : c.tls with
  | false => exact ⟨s, b, spec_ClientLine_of 0 c t (by unfold spec_ClientLine_R; rw [htls, br_f, e, qb_s])⟩
  | true =>
    have hk := spec_KeyOf_t c.share 2 (by omega) (by omega) (by omega)
    have hop := spec_Open_t (keyT c.share 2) c.inn t (Nat.le_trans (mkT_cost _ _) (by decide)) ht h3 h4
    cases hb : (openT (keyT c.share 2) c.inn t).2 with
    | true => exact ⟨s2, b2, spec_ClientLine_of 0 c t (by unfold spec_ClientLine_R; rw [htls, br_t, hk, qb_s, hop, qb_s]; dsimp only; rw [hb, Bool.not_true, br_f, e2, qb_s])⟩
    | false => exact ⟨⟨#[]⟩, false, spec_ClientLine_of 0 c t (by unfold spec_ClientLine_R; rw [htls, br_t, hk, qb_s, hop, qb_s]; dsimp only; rw [hb, Bool.not_false, br_t])⟩

theorem spec_l9Reply_t (c : Client) (t : Term) (now : Int) (hc : CB c) (ht : t.cost ≤ 400000000) : ∃ c' l, spec_l9Reply_T c t now = some (c', l, ()) ∧ CB c' := by
  obtain ⟨cf, lf, ef, bf⟩ := fail_some c hc
  have ha : (atomT c.eph).cost ≤ 400000000 := by rw [atomT_cost]; omega
  obtain ⟨r1, r2, r3, r4⟩ := replyOf_cost (atomT c.eph) t
  have hro := spec_ReplyOf_t (atomT c.eph) t ha ht
  generalize replyOf (atomT c.eph) t = r at r1 r2 r3 r4 hro
  obtain ⟨p, s, ct, sg, b⟩ := r
  dsimp only at r1 r2 r3 r4 hro
  have hpr := spec_Proved_t (atomT c.eph) p ct sg c.host now ha (by omega) (by omega) (by omega)
  generalize proved (atomT c.eph) p ct sg c.host now = pr at hpr
  have main : ∀ q : Bool, ∃ c' l, (qb (spec_l8Text_T (ByteArray.mk #[109, 97, 105, 108])) fun x_2 => qb (spec_ClientSay_T (Client.mk c.step c.host c.must c.eph c.body s c.inn 1 true q) x_2) fun x => qb (spec_Done_T s) fun x_3 => qb (spec_ClientOk_T (Client.mk 5 x.fst.host x.fst.must x.fst.eph x.fst.body x.fst.share x.fst.inn x.fst.out x.fst.tls x.fst.proved)) fun x_4 => br (!x_4) (some (cf, lf, ())) (qb (spec_TermOk_T x.snd.fst) fun x_5 => br (!x_5) (some (cf, lf, ())) (qb (spec_TermOk_T x_3) fun x_6 => br (!x_6) (some (cf, lf, ())) (some (Client.mk 5 x.fst.host x.fst.must x.fst.eph x.fst.body x.fst.share x.fst.inn x.fst.out x.fst.tls x.fst.proved, [x_3, x.snd.fst], ())))) : Option (Client × List Term × Unit)) = some (c', l, ()) ∧ CB c' := by
    intro q
    have hcq : CB (Client.mk c.step c.host c.must c.eph c.body s c.inn 1 true q) := ⟨by show s.cost ≤ _; omega, hc.2.1, hc.2.2.1, hc.2.2.2.1, by show (-9223372036854775808 : Int) ≤ 1; omega, by show (1 : Int) ≤ _; omega⟩
    have hsay := spec_ClientSay_t (Client.mk c.step c.host c.must c.eph c.body s c.inn 1 true q) (textT ⟨#[109, 97, 105, 108]⟩) (by show s.cost ≤ _; omega) (text_le' _ (by decide)) hcq.2.2.2.2.1 hcq.2.2.2.2.2
    have hb := sayS_CB (textT ⟨#[109, 97, 105, 108]⟩) hcq
    have h2 := sayS_cost (Client.mk c.step c.host c.must c.eph c.body s c.inn 1 true q) (textT ⟨#[109, 97, 105, 108]⟩) (text_le' _ (by decide))
    generalize sayS (Client.mk c.step c.host c.must c.eph c.body s c.inn 1 true q) (textT ⟨#[109, 97, 105, 108]⟩) = g at hsay hb h2
    obtain ⟨g, u⟩ := g
    dsimp only at hsay hb h2
    have hd : (doneT s).cost ≤ 400000000 := Nat.le_trans (mkT_cost _ _) (by decide)
    have hok := spec_ClientOk_t (Client.mk 5 g.host g.must g.eph g.body g.share g.inn g.out g.tls g.proved) (show g.share.cost < _ by have := hb.1; omega) (show g.host.size ≤ _ by have := hb.2.1; omega)
    rw [spec_l8Text_t, qb_s, hsay, qb_s, spec_Done_t s (by omega), qb_s]
    dsimp only
    rw [hok, qb_s, spec_TermOk_t u (by omega), spec_TermOk_t (doneT s) (by omega)]
    simp only [qb_s]
    cases clientOk (Client.mk 5 g.host g.must g.eph g.body g.share g.inn g.out g.tls g.proved) with
    | false => exact ⟨cf, lf, rfl, bf⟩
    | true =>
      cases u.ok with
      | false => exact ⟨cf, lf, rfl, bf⟩
      | true =>
        cases (doneT s).ok with
        | false => exact ⟨cf, lf, rfl, bf⟩
        | true => exact ⟨_, _, rfl, hb⟩
  have hfin : ∀ {y}, spec_l9Reply_R 0 c t now = y → ∀ c' l, y = some (c', l, ()) → CB c' → ∃ c' l, spec_l9Reply_T c t now = some (c', l, ()) ∧ CB c' := fun h c' l e hb => ⟨c', l, spec_l9Reply_of 0 c t now (h.trans e), hb⟩
  cases b with
  | false =>
    refine hfin (y := some (cf, lf, ())) ?_ cf lf rfl bf
    unfold spec_l9Reply_R
    rw [spec_Atom_t, qb_s, hro, qb_s]
    simp only [br_f, br_t, Bool.not_false, ef, qb_s, Term.eta]
  | true =>
    cases hm : c.must with
    | true =>
      cases pr with
      | false =>
        refine hfin (y := some (cf, lf, ())) ?_ cf lf rfl bf
        unfold spec_l9Reply_R
        rw [spec_Atom_t, qb_s, hro, qb_s]
        simp only [br_f, br_t, Bool.not_true, Bool.not_false, hpr, hm, ef, qb_s, Term.eta]
      | true =>
        obtain ⟨c1, l1, e1, b1⟩ := main true
        refine hfin (y := some (c1, l1, ())) ?_ c1 l1 rfl b1
        rw [← e1]
        unfold spec_l9Reply_R
        rw [spec_Atom_t, qb_s, hro, qb_s]
        simp only [br_f, br_t, Bool.not_true, Bool.not_false, hpr, hm, ef, qb_s, Term.eta]
    | false =>
      obtain ⟨c1, l1, e1, b1⟩ := main pr
      refine hfin (y := some (c1, l1, ())) ?_ c1 l1 rfl b1
      rw [← e1]
      unfold spec_l9Reply_R
      rw [spec_Atom_t, qb_s, hro, qb_s]
      simp only [br_f, br_t, Bool.not_true, Bool.not_false, hpr, hm, ef, qb_s, Term.eta]

theorem spec_ClientHear_t (c : Client) (t : Term) (now : Int) (hc : CB c) (ht : t.cost ≤ 400000000) : ∃ c' l, spec_ClientHear_T c t now = some (c', l, ()) ∧ CB c' := by
  obtain ⟨h1, h2, h3, h4, h5, h6⟩ := hc
  have hc : CB c := ⟨h1, h2, h3, h4, h5, h6⟩
  obtain ⟨cf, lf, ef, bf⟩ := fail_some c hc
  have hcp := spec_l9Copy_t c (by omega)
  have hok := spec_ClientOk_t c (by omega) (by omega)
  have htk := spec_TermOk_t t (by omega)
  have hstay : (clientOk c = false ∨ t.ok = false ∨ c.step ≥ 9) → ∃ c' l, spec_ClientHear_T c t now = some (c', l, ()) ∧ CB c' := by
    intro hs
    refine ⟨c, [], spec_ClientHear_of 0 c t now ?_, hc⟩
    unfold spec_ClientHear_R
    rw [hcp, qb_s, hok, qb_s, htk]
    cases ho : clientOk c with
    | false => simp only [Bool.not_false, br_t, Term.eta]
    | true =>
      cases hk : t.ok with
      | false => simp only [Bool.not_true, Bool.not_false, br_f, br_t, qb_s, Term.eta]
      | true =>
        have h9 : c.step ≥ 9 := by
          rcases hs with hs | hs | hs
          · rw [ho] at hs; cases hs
          · rw [hk] at hs; cases hs
          · exact hs
        simp only [Bool.not_true, br_f, br_t, qb_s, decide_eq_true h9, Term.eta]
  cases ho : clientOk c with
  | false => exact hstay (.inl ho)
  | true =>
    cases hk : t.ok with
    | false => exact hstay (.inr (.inl hk))
    | true =>
      by_cases h9 : c.step ≥ 9
      · exact hstay (.inr (.inr h9))
      obtain ⟨s0, s1, i0, i1, o0, o1⟩ := clientOk_rng ho
      by_cases h44 : c.step = 4
      · obtain ⟨c1, l1, e1, b1⟩ := spec_l9Reply_t c t now hc ht
        refine ⟨c1, l1, spec_ClientHear_of 0 c t now ?_, b1⟩
        unfold spec_ClientHear_R
        rw [hcp, qb_s, hok, qb_s, htk, ho, hk]
        simp only [Bool.not_true, br_f, br_t, qb_s, decide_eq_false h9, beq_int, decide_eq_true h44, e1, Term.eta]
      obtain ⟨s, b, el⟩ := spec_ClientLine_t c t hc ht
      cases b with
      | false =>
        refine ⟨cf, lf, spec_ClientHear_of 0 c t now ?_, bf⟩
        unfold spec_ClientHear_R
        rw [hcp, qb_s, hok, qb_s, htk, ho, hk]
        simp only [Bool.not_true, Bool.not_false, br_f, br_t, qb_s, decide_eq_false h9, beq_int, decide_eq_false h44, el, ef, Term.eta]
      | true =>
        cases htl : c.tls with
        | true =>
          have hmin : spec_l1Min_T (IntKind.i64.wrap (c.inn + 1)) 100 = some (if IntKind.i64.wrap (c.inn + 1) < 100 then IntKind.i64.wrap (c.inn + 1) else 100) := l1Min_t _ _
          have hw := wrap_rng (c.inn + 1)
          obtain ⟨c1, l1, e1, b1⟩ := spec_l9Line_t { c with inn := if IntKind.i64.wrap (c.inn + 1) < 100 then IntKind.i64.wrap (c.inn + 1) else 100 } s s0 s1 ⟨h1, h2, by dsimp only; split <;> omega, by dsimp only; split <;> omega, h5, h6⟩
          refine ⟨c1, l1, spec_ClientHear_of 0 c t now ?_, b1⟩
          unfold spec_ClientHear_R
          rw [hcp, qb_s, hok, qb_s, htk, ho, hk]
          simp only [Bool.not_true, Bool.not_false, br_f, br_t, qb_s, decide_eq_false h9, beq_int, decide_eq_false h44, el, htl, hmin]
          rw [htl] at e1
          rw [e1]
          simp only [qb_s, Term.eta]
        | false =>
          obtain ⟨c1, l1, e1, b1⟩ := spec_l9Line_t c s s0 s1 hc
          refine ⟨c1, l1, spec_ClientHear_of 0 c t now ?_, b1⟩
          unfold spec_ClientHear_R
          rw [hcp, qb_s, hok, qb_s, htk, ho, hk]
          simp only [Bool.not_true, Bool.not_false, br_f, br_t, qb_s, decide_eq_false h9, beq_int, decide_eq_false h44, el, htl, e1, Term.eta]

end Go.Proofs.YtgegmojoakkohaaGreatDoor
