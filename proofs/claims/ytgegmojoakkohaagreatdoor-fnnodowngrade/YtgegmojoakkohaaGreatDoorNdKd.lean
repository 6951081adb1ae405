/-
  Calls that are drawn: some answer, within bounds.
-/
import Derived.Test.YtgegmojoakkohaaGreatDoorNdCh
import Derived.Test.YtgegmojoakkohaaGreatDoorNdDt
namespace Go.Proofs.YtgegmojoakkohaaGreatDoor
open Go.Vm
set_option linter.unusedVariables false
set_option linter.unusedSimpArgs false

theorem hear_k (c : Client) (t : Term) (hc : CB c) (ht : t.cost ≤ 400000000) : ∃ c', CB c' ∧ ∀ (k : Client → Option (Ex × St)), (br c.tls (qb (spec_KeyOf_T c.share 2) fun x_1 => qb (spec_Seal_T x_1 c.inn t) fun x => qb (spec_ClientHear_T c x 0) fun x => k x.fst) (qb (spec_ClientHear_T c t 0) fun x => k x.fst)) = k c' := by
  obtain ⟨h1, h2, h3, h4, h5, h6⟩ := hc
  have hc : CB c := ⟨h1, h2, h3, h4, h5, h6⟩
  cases htls : c.tls with
  | false =>
    obtain ⟨c', l, e, hb⟩ := spec_ClientHear_t c t 0 hc ht
    exact ⟨c', hb, fun k => by rw [br_f, e, qb_s]⟩
  | true =>
    have hk := spec_KeyOf_t c.share 2 (by omega) (by omega) (by omega)
    have hse := spec_Seal_t (keyT c.share 2) c.inn t (Nat.le_trans (mkT_cost _ _) (by decide)) ht h3 h4
    obtain ⟨c', l, e, hb⟩ := spec_ClientHear_t c (sealT (keyT c.share 2) c.inn t) 0 hc (Nat.le_trans (mkT_cost _ _) (by decide))
    exact ⟨c', hb, fun k => by rw [br_t, hk, qb_s, hse, qb_s, e, qb_s]⟩

def l9L : List ByteArray := [⟨#[50, 50, 48]⟩, ⟨#[50, 53, 48, 32, 115, 116, 97, 114, 116, 116, 108, 115]⟩, ⟨#[50, 50, 48]⟩]

theorem l9_round (b : List UInt8) (i h m : Int) (x : Nat) (hx : (x : Int) < m) (hx2 : x ≤ 100) (c : Client) (hc : CB c) :
    ∃ c', CB c' ∧ roundK Tryz.prog cfg RN 20 5 141 5 1 (spec_l9DrawRight_S5 true l9L m (x : Int) 0 ⟨#[]⟩ false 0 0 0 0 ⟨#[]⟩ [] 0 0 false false c b i h) = some (.nrm, spec_l9DrawRight_S5 true l9L m ((x + 1 : Nat) : Int) 0 ⟨#[]⟩ false 0 0 0 0 ⟨#[]⟩ [] 0 0 false false c' b i h) := by
  have hw := wrap_succ (i := x) (by omega)
  rw [spec_l9DrawRight_round5, decide_eq_true hx, br_t, spec_l8Text_t, qb_s, hw]
  by_cases h3 : x < 3
  · obtain ⟨s, hs⟩ : ∃ s, l9L[x]? = some s := ⟨_, List.getElem?_eq_getElem (show x < l9L.length from h3)⟩
    have hm := List.mem_of_getElem? hs
    have hsz : s.size ≤ 12 := by
      unfold l9L at hm
      simp only [List.mem_cons, List.not_mem_nil, or_false] at hm
      rcases hm with rfl | rfl | rfl <;> decide
    obtain ⟨c', hb, hk⟩ := hear_k c (textT s) hc (text_le' _ (by omega))
    refine ⟨c', hb, ?_⟩
    rw [show decide ((x : Int) < 3) = true by simp; omega, br_t, idx_nat hs, qb_s, spec_l8Text_t, qb_s]
    exact hk fun c'' => some (.nrm, spec_l9DrawRight_S5 true l9L m ((x + 1 : Nat) : Int) 0 ⟨#[]⟩ false 0 0 0 0 ⟨#[]⟩ [] 0 0 false false c'' b i h)
  · rw [show decide ((x : Int) < 3) = false by simp; omega, br_f]
    by_cases h4 : c.step = 4
    · have ha : ∀ k : Int, (atomT k).cost ≤ 400000000 := fun k => by rw [atomT_cost]; omega
      have hct := certT_cost ⟨c.host, mkT 4 [atomT 10], 50⟩
      have hr := replyT_cost (atomT 40) (mkT 4 [atomT c.eph]) (atomT 10) (certT ⟨c.host, mkT 4 [atomT 10], 50⟩)
      obtain ⟨c', hb, hk⟩ := hear_k c (replyT (atomT 40) (mkT 4 [atomT c.eph]) (atomT 10) (certT ⟨c.host, mkT 4 [atomT 10], 50⟩)).1 hc (by omega)
      refine ⟨c', hb, ?_⟩
      rw [show (c.step == 4) = true by simp [h4], br_t, spec_Atom_t, qb_s, spec_Atom_t, qb_s, spec_Pub_t _ (ha _), qb_s, spec_Atom_t, qb_s, qb_s, spec_Pub_t _ (ha _), qb_s,
        spec_CertTerm_t ⟨c.host, mkT 4 [atomT 10], 50⟩ (show c.host.size ≤ _ by have := hc.2.1; omega) (show (mkT 4 [atomT 10]).cost ≤ 400000000 from Nat.le_trans (mkT_cost _ _) (by decide)), qb_s,
        spec_Reply_t (atomT 40) (mkT 4 [atomT c.eph]) (atomT 10) _ (ha 40) (Nat.le_trans (mkT_cost _ _) (by decide)) (ha 10) (Nat.le_trans hct (by decide)), qb_s]
      exact hk fun c'' => some (.nrm, spec_l9DrawRight_S5 true l9L m ((x + 1 : Nat) : Int) 0 ⟨#[]⟩ false 0 0 0 0 ⟨#[]⟩ [] 0 0 false false c'' b i h)
    · rw [show (c.step == 4) = false by simp [h4], br_f]
      by_cases h7 : c.step = 7
      · obtain ⟨c', hb, hk⟩ := hear_k c (textT ⟨#[51, 53, 52]⟩) hc (text_le' _ (by decide))
        refine ⟨c', hb, ?_⟩
        rw [show (c.step == 7) = true by simp [h7], br_t, spec_l8Text_t, qb_s]
        exact hk fun c'' => some (.nrm, spec_l9DrawRight_S5 true l9L m ((x + 1 : Nat) : Int) 0 ⟨#[]⟩ false 0 0 0 0 ⟨#[]⟩ [] 0 0 false false c'' b i h)
      · obtain ⟨c', hb, hk⟩ := hear_k c (textT ⟨#[50, 53, 48]⟩) hc (text_le' _ (by decide))
        refine ⟨c', hb, ?_⟩
        rw [show (c.step == 7) = false by simp [h7], br_f]
        exact hk fun c'' => some (.nrm, spec_l9DrawRight_S5 true l9L m ((x + 1 : Nat) : Int) 0 ⟨#[]⟩ false 0 0 0 0 ⟨#[]⟩ [] 0 0 false false c'' b i h)

theorem l9_loop (b : List UInt8) (i h : Int) : ∀ (r x q : Nat), x + r ≤ 100 → r < q → ∀ (c : Client), CB c →
    ∃ c', CB c' ∧ lp Tryz.prog cfg RN 20 5 141 5 1 q (spec_l9DrawRight_S5 true l9L ((x + r : Nat) : Int) (x : Int) 0 ⟨#[]⟩ false 0 0 0 0 ⟨#[]⟩ [] 0 0 false false c b i h) = some (.ext 0, spec_l9DrawRight_O5 0 ⟨#[]⟩ false 0 0 0 0 ⟨#[]⟩ [] 0 0 false false c' b i h)
  | 0, x, q, hx, hq, c, hc => by
    obtain ⟨q, rfl⟩ : ∃ q', q = q' + 1 := ⟨q - 1, by omega⟩
    refine ⟨c, hc, lp_out ?_ rfl⟩
    rw [spec_l9DrawRight_round5, show decide ((x : Int) < ((x + 0 : Nat) : Int)) = false by simp, br_f]
  | r + 1, x, q, hx, hq, c, hc => by
    obtain ⟨q, rfl⟩ : ∃ q', q = q' + 1 := ⟨q - 1, by omega⟩
    obtain ⟨c1, b1, e1⟩ := l9_round b i h ((x + (r + 1) : Nat) : Int) x (by omega) (by omega) c hc
    obtain ⟨c2, b2, e2⟩ := l9_loop b i h r (x + 1) q (by omega) (by omega) c1 b1
    rw [show x + 1 + r = x + (r + 1) by omega] at e2
    exact ⟨c2, b2, lp_next e1 e2⟩

theorem clientNew_CB (host : ByteArray) (must : Bool) (eph body : Int) (hh : host.size ≤ 100) : CB (clientNew host must eph body).1 := by
  unfold clientNew
  split
  · exact ⟨by show zeroT.cost ≤ _; rw [zeroT_cost]; omega, hh, by show (-9223372036854775808 : Int) ≤ 0; omega, by show (0 : Int) ≤ _; omega, by show (-9223372036854775808 : Int) ≤ 0; omega, by show (0 : Int) ≤ _; omega⟩
  · exact ⟨by show zeroT.cost ≤ _; rw [zeroT_cost]; omega, by decide, by show (-9223372036854775808 : Int) ≤ 0; omega, by show (0 : Int) ≤ _; omega, by show (-9223372036854775808 : Int) ≤ 0; omega, by show (0 : Int) ≤ _; omega⟩

theorem spec_l9DrawRight_t (b : List UInt8) (i h : Int) (hc : CurOk b i) : ∃ v i' h', spec_l9DrawRight_H b i h = some (v, (b, i', h', ()), ()) ∧ CurOk b i' ∧ CB v := by
  obtain ⟨host, i1, h1, e1, c1, hh⟩ := spec_l5DrawHost_t b i h hc
  obtain ⟨mu, i2, h2, e2, c2⟩ := spec_l1Once_t b i1 h1 c1 2
  obtain ⟨p, i3, h3, e3, c3, _, _⟩ := spec_l1Below_t b i2 h2 c2 3
  obtain ⟨q, i4, h4, e4, c4, _, _⟩ := spec_l1Below_t b i3 h3 c3 3
  obtain ⟨m, i5, h5, e5, c5, m0, m1⟩ := spec_l1Below_t b i4 h4 c4 10
  have m2 := m1 (by omega)
  obtain ⟨k, rfl⟩ : ∃ k : Nat, m = k := ⟨m.toNat, by omega⟩
  have hnew := spec_ClientNew_t host mu (IntKind.i64.wrap (20 + p)) (IntKind.i64.wrap (30 + q)) (by omega)
  have hcb := clientNew_CB host mu (IntKind.i64.wrap (20 + p)) (IntKind.i64.wrap (30 + q)) (by omega)
  generalize clientNew host mu (IntKind.i64.wrap (20 + p)) (IntKind.i64.wrap (30 + q)) = g at hnew hcb
  obtain ⟨c', hb, hl⟩ := l9_loop b i5 h5 k 0 20 (by omega) (by omega) g.1 hcb
  rw [Nat.zero_add] at hl
  have hl' := spec_l9DrawRight_L5_of hl
  refine ⟨c', i5, h5, spec_l9DrawRight_of 20 b i h ?_, c5, hb⟩
  unfold spec_l9DrawRight_R
  rw [e1, qb_s]; dsimp only
  rw [e2, qb_s]; dsimp only
  rw [e3, qb_s]; dsimp only
  rw [e4, qb_s]; dsimp only
  rw [hnew, qb_s]; dsimp only
  rw [e5, qb_s]; dsimp only
  refine (qb_run hl').trans ?_
  dsimp only
  rw [isRetE_e, br_f, isExt_e, br_t, Term.eta]

theorem spec_l9Draw_t (b : List UInt8) (i h : Int) (hc : CurOk b i) : ∃ v i' h', spec_l9Draw_H b i h = some (v, (b, i', h', ()), ()) ∧ CurOk b i' ∧ CB v := by
  obtain ⟨c, i1, h1, e1, c1, hb⟩ := spec_l9DrawRight_t b i h hc
  obtain ⟨k, i2, h2, e2, c2, _, _⟩ := spec_l1Below_t b i1 h1 c1 14
  obtain ⟨w0, j0, g0, f0, d0, _, _⟩ := spec_l1Below_t b i2 h2 c2 12
  obtain ⟨w4, j4, g4, f4, d4, m4⟩ := spec_l1PickInt_t b i2 h2 c2 true [-1, 0, 100, 101] (by decide)
  obtain ⟨w5, j5, g5, f5, d5, m5⟩ := spec_l1Draw_t b i2 h2 c2
  obtain ⟨w6, j6, g6, f6, d6, m6⟩ := spec_l1PickInt_t b i2 h2 c2 true [-1, 99, 100, 9223372036854775807] (by decide)
  obtain ⟨b1, b2, b3, b4, b5, b6⟩ := hb
  have hi4 : -9223372036854775808 ≤ w4 ∧ w4 ≤ 9223372036854775807 := by
    simp only [List.mem_cons, List.not_mem_nil, or_false] at m4
    omega
  have hi6 : -9223372036854775808 ≤ w6 ∧ w6 ≤ 9223372036854775807 := by
    simp only [List.mem_cons, List.not_mem_nil, or_false] at m6
    omega
  have hof : ∀ v i' h', spec_l9Draw_R 0 b i h = some (v, (b, i', h', ()), ()) → CurOk b i' → CB v → ∃ v i' h', spec_l9Draw_H b i h = some (v, (b, i', h', ()), ()) ∧ CurOk b i' ∧ CB v := fun v i' h' e hc hb => ⟨v, i', h', spec_l9Draw_of 0 b i h e, hc, hb⟩
  unfold spec_l9Draw_R at hof
  rw [e1, qb_s] at hof
  dsimp only at hof
  rw [e2, qb_s] at hof
  dsimp only at hof
  rw [f0, f4, f5, f6] at hof
  simp only [qb_s, Term.eta] at hof
  by_cases k0 : k = 0
  · rw [show (k == 0) = true by simp [k0], br_t] at hof
    exact hof _ _ _ rfl d0 ⟨b1, b2, b3, b4, b5, b6⟩
  rw [show (k == 0) = false by simp [k0], br_f] at hof
  by_cases k1 : k = 1
  · rw [show (k == 1) = true by simp [k1], br_t] at hof
    exact hof _ _ _ rfl c2 ⟨b1, b2, b3, b4, b5, b6⟩
  rw [show (k == 1) = false by simp [k1], br_f] at hof
  by_cases k2 : k = 2
  · rw [show (k == 2) = true by simp [k2], br_t] at hof
    exact hof _ _ _ rfl c2 ⟨b1, b2, b3, b4, b5, b6⟩
  rw [show (k == 2) = false by simp [k2], br_f] at hof
  by_cases k3 : k = 3
  · rw [show (k == 3) = true by simp [k3], br_t] at hof
    exact hof _ _ _ rfl c2 ⟨b1, b2, b3, b4, b5, b6⟩
  rw [show (k == 3) = false by simp [k3], br_f] at hof
  by_cases k4 : k = 4
  · rw [show (k == 4) = true by simp [k4], br_t] at hof
    exact hof _ _ _ rfl d4 ⟨b1, b2, hi4.1, hi4.2, b5, b6⟩
  rw [show (k == 4) = false by simp [k4], br_f] at hof
  by_cases k5 : k = 5
  · rw [show (k == 5) = true by simp [k5], br_t] at hof
    exact hof _ _ _ rfl d5 ⟨by show w5.cost ≤ _; omega, b2, b3, b4, b5, b6⟩
  rw [show (k == 5) = false by simp [k5], br_f] at hof
  by_cases k6 : k = 6
  · rw [show (k == 6) = true by simp [k6], br_t] at hof
    exact hof _ _ _ rfl d6 ⟨b1, b2, b3, b4, hi6.1, hi6.2⟩
  · rw [show (k == 6) = false by simp [k6], br_f] at hof
    exact hof _ _ _ rfl c2 ⟨b1, b2, b3, b4, b5, b6⟩

end Go.Proofs.YtgegmojoakkohaaGreatDoor
