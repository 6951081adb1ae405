/-
  What a drawn call may hear; what the laws compare.
-/
import Derived.Test.YtgegmojoakkohaaGreatDoorNdKd
import Derived.Test.YtgegmojoakkohaaGreatDoorNdCy
namespace Go.Proofs.YtgegmojoakkohaaGreatDoor
open Go.Vm
set_option linter.unusedVariables false
set_option linter.unusedSimpArgs false

theorem spec_l9DrawHeard_t (c : Client) (hcb : CB c) (b : List UInt8) (i h : Int) (hc : CurOk b i) : ∃ v i' h', spec_l9DrawHeard_H c b i h = some (v, (b, i', h', ()), ()) ∧ CurOk b i' ∧ v.cost ≤ 400000000 := by
  obtain ⟨s, i1, h1, e1, c1, hs⟩ := spec_l1Pick_t b i h hc true [⟨#[50, 50, 48]⟩, ⟨#[50, 53, 48]⟩, ⟨#[51, 53, 52]⟩, ⟨#[50, 53, 48, 32, 115, 116, 97, 114, 116, 116, 108, 115]⟩, ⟨#[50, 53, 48]⟩, ⟨#[120]⟩] (by decide)
  have hsz : s.size ≤ 12 := by
    simp only [List.mem_cons, List.not_mem_nil, or_false] at hs
    rcases hs with rfl | rfl | rfl | rfl | rfl | rfl <;> decide
  have ht : (textT s).cost ≤ 400000000 := text_le' _ (by omega)
  obtain ⟨o4, i2, h2, e2, c2⟩ := spec_l1Once_t b i1 h1 c1 4
  obtain ⟨p, i3, h3, e3, c3, _, _⟩ := spec_l1Below_t b i2 h2 c2 2
  obtain ⟨hst, i4, h4, e4, c4, hm⟩ := spec_l1Pick_t b i3 h3 c3 true [c.host, c.host, ⟨#[109, 120, 46, 98]⟩] (by simp)
  have hh : hst.size ≤ 100 := by
    simp only [List.mem_cons, List.not_mem_nil, or_false] at hm
    rcases hm with rfl | rfl | rfl
    · exact hcb.2.1
    · exact hcb.2.1
    · decide
  obtain ⟨u, i5, h5, e5, c5, _⟩ := spec_l1PickInt_t b i4 h4 c4 true [0, 50] (by decide)
  obtain ⟨q5, i6, h6, e6, c6⟩ := spec_l1Once_t b i2 h2 c2 5
  obtain ⟨q8, i7, h7, e7, c7⟩ := spec_l1Once_t b i6 h6 c6 8
  obtain ⟨t8, i8, h8, e8, c8, d8⟩ := spec_l1Draw_t b i7 h7 c7
  obtain ⟨q9, i9, h9, e9, c9⟩ := spec_l1Once_t b i2 h2 c2 8
  obtain ⟨t10, i10, h10, e10, c10, d10⟩ := spec_l1Draw_t b i9 h9 c9
  obtain ⟨r5, j1, g1, f1, k1⟩ := spec_l1Once_t b i1 h1 c1 5
  obtain ⟨r8, j2, g2, f2, k2⟩ := spec_l1Once_t b j1 g1 k1 8
  obtain ⟨t3, j3, g3, f3, k3, l3⟩ := spec_l1Draw_t b j2 g2 k2
  obtain ⟨r9, j4, g4, f4, k4⟩ := spec_l1Once_t b i1 h1 c1 8
  obtain ⟨t5, j5, g5, f5, k5, l5⟩ := spec_l1Draw_t b j4 g4 k4
  obtain ⟨b1, b2, b3, b4, b5, b6⟩ := hcb
  have ha : ∀ k : Int, (atomT k).cost ≤ 400000000 := fun k => by rw [atomT_cost]; omega
  have hkk := spec_KeyOf_t c.share 2 (by omega) (by omega) (by omega)
  have hse := spec_Seal_t (keyT c.share 2) c.inn (textT s) (Nat.le_trans (mkT_cost _ _) (by decide)) ht b3 b4
  have hsc : (sealT (keyT c.share 2) c.inn (textT s)).cost ≤ 400000000 := Nat.le_trans (mkT_cost _ _) (by decide)
  have hct := certT_cost ⟨hst, mkT 4 [atomT 10], u⟩
  have hce := spec_CertTerm_t ⟨hst, mkT 4 [atomT 10], u⟩ (show hst.size ≤ _ by omega) (show (mkT 4 [atomT 10]).cost ≤ 400000000 from Nat.le_trans (mkT_cost _ _) (by decide))
  have hre := spec_Reply_t (atomT 40) (mkT 4 [atomT c.eph]) (atomT (IntKind.i64.wrap (10 + p))) (certT ⟨hst, mkT 4 [atomT 10], u⟩) (ha 40) (Nat.le_trans (mkT_cost _ _) (by decide)) (ha _) (Nat.le_trans hct (by decide))
  have hrc := replyT_cost (atomT 40) (mkT 4 [atomT c.eph]) (atomT (IntKind.i64.wrap (10 + p))) (certT ⟨hst, mkT 4 [atomT 10], u⟩)
  generalize replyT (atomT 40) (mkT 4 [atomT c.eph]) (atomT (IntKind.i64.wrap (10 + p))) (certT ⟨hst, mkT 4 [atomT 10], u⟩) = rp at hre hrc
  have hof : ∀ v i' h', spec_l9DrawHeard_R 0 c b i h = some (v, (b, i', h', ()), ()) → CurOk b i' → v.cost ≤ 400000000 → ∃ v i' h', spec_l9DrawHeard_H c b i h = some (v, (b, i', h', ()), ()) ∧ CurOk b i' ∧ v.cost ≤ 400000000 := fun v i' h' e hc hb => ⟨v, i', h', spec_l9DrawHeard_of 0 c b i h e, hc, hb⟩
  unfold spec_l9DrawHeard_R at hof
  simp only [e1, e2, e3, e4, e5, e6, e7, e8, e9, e10, f1, f2, f3, f4, f5, qb_s, spec_l8Text_t, spec_Atom_t, spec_Pub_t _ (ha _), hkk, hse, hce, hre, Term.eta, beq_int] at hof
  by_cases h44 : c.step = 4
  · rw [decide_eq_true h44, br_t] at hof
    cases o4 with
    | false => rw [Bool.not_false, br_t] at hof; exact hof _ _ _ rfl c5 (by omega)
    | true =>
      rw [Bool.not_true, br_f] at hof
      cases htl : c.tls with
      | true =>
        rw [htl, br_t] at hof
        cases q5 with
        | false => rw [Bool.not_false, br_t] at hof; exact hof _ _ _ rfl c6 hsc
        | true =>
          rw [Bool.not_true, br_f] at hof
          cases q8 with
          | true => rw [br_t] at hof; exact hof _ _ _ rfl c8 (by omega)
          | false => rw [br_f] at hof; exact hof _ _ _ rfl c7 ht
      | false =>
        rw [htl, br_f] at hof
        cases q9 with
        | true => rw [br_t] at hof; exact hof _ _ _ rfl c10 (by omega)
        | false => rw [br_f] at hof; exact hof _ _ _ rfl c9 ht
  · rw [decide_eq_false h44, br_f] at hof
    cases htl : c.tls with
    | true =>
      rw [htl, br_t] at hof
      cases r5 with
      | false => rw [Bool.not_false, br_t] at hof; exact hof _ _ _ rfl k1 hsc
      | true =>
        rw [Bool.not_true, br_f] at hof
        cases r8 with
        | true => rw [br_t] at hof; exact hof _ _ _ rfl k3 (by omega)
        | false => rw [br_f] at hof; exact hof _ _ _ rfl k2 ht
    | false =>
      rw [htl, br_f] at hof
      cases r9 with
      | true => rw [br_t] at hof; exact hof _ _ _ rfl k5 (by omega)
      | false => rw [br_f] at hof; exact hof _ _ _ rfl k4 ht

theorem spec_DrawClientHear_t (b : List UInt8) (hb : b.length ≤ 1048576) : ∃ c t now, spec_DrawClientHear_T b = some (c, t, now, ()) ∧ CB c ∧ t.cost ≤ 400000000 := by
  obtain ⟨h0, e0⟩ := spec_l1New_t b (IntKind.i64.wrap (22143 + (b.length : Int))) hb
  obtain ⟨c, i1, h1, e1, c1, hc⟩ := spec_l9Draw_t b 0 h0 ⟨by omega, by omega, hb⟩
  obtain ⟨t, i2, h2, e2, c2, ht⟩ := spec_l9DrawHeard_t c hc b i1 h1 c1
  obtain ⟨n, i3, h3, e3, c3, _⟩ := spec_l1PickInt_t b i2 h2 c2 true [0, 0, 1, 51] (by decide)
  refine ⟨c, t, n, spec_DrawClientHear_of 4010 b ?_, hc, ht⟩
  unfold spec_DrawClientHear_R
  refine (qb_run e0).trans ?_
  dsimp only
  rw [isRetE_e, br_f, isExt_e, br_t, e1, qb_s]
  dsimp only
  rw [e2, qb_s]
  dsimp only
  rw [e3, qb_s]
  simp only [Term.eta]

theorem sameClient_t (c : Client) (hs : c.share.cost ≤ 400000000) : laws_sameClient_T c c = some true := by
  refine laws_sameClient_of 0 c c ?_
  unfold laws_sameClient_R
  rw [spec_Same_t c.share (by omega)]
  simp only [beq_self_eq_true, br_t, qb_s, decide_true]

theorem sameTerms_t (l : List Term) (hl : l.length ≤ 1000) (hc : ∀ x ∈ l, x.cost ≤ 400000000) : laws_sameTerms_T l l = some true := by
  refine laws_sameTerms_of (l.length + 1) l l ?_
  unfold laws_sameTerms_R
  rw [show ((l.length : Int) != (l.length : Int)) = false by simp, br_f]
  have hloop := lp_eq' (P := Tryz.prog) (cfg := cfg) (T := RN) (n := l.length + 1) (d := 5) (f := 45) (r := 4) (na := 0) l l rfl (fun i => laws_sameTerms_S4 false l false l false i) (.ext 0, laws_sameTerms_O4 false) (.ret, laws_sameTerms_O4 false)
    (by rw [laws_sameTerms_round4, lt_self]; rfl) rfl rfl
    (fun i x y hx hy hi => by
      have hyx : y = x := by rw [hx] at hy; exact (Option.some.inj hy).symm
      subst hyx
      rw [laws_sameTerms_round4, lt_t hi, idx_nat hx]
      have := hc y (List.mem_of_getElem? hx)
      simp only [br_t, qb_s, spec_Same_t y (by omega) y]
      rw [wrap_succ (by omega)]
      simp [br_t, br_f]) (l.length + 1) (by omega)
  refine (qb_run (laws_sameTerms_L4_if hloop)).trans ?_
  simp [isRetE_e, isExt_e, br_t, br_f]

end Go.Proofs.YtgegmojoakkohaaGreatDoor
