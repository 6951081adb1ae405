/-
  Calls of the reference: some answer, within bounds.
-/
import Derived.Test.YtgegmojoakkohaaGreatDoorNdCs
namespace Go.Proofs.YtgegmojoakkohaaGreatDoor
open Go.Vm
set_option linter.unusedVariables false
set_option linter.unusedSimpArgs false

theorem failS_CB {c : Client} (h : CB c) : CB (failS c) := by
  unfold failS
  split
  · exact h
  · exact ⟨by show zeroT.cost ≤ _; rw [zeroT_cost]; omega, h.2⟩

theorem sayS_CB {c : Client} (t : Term) (h : CB c) : CB (sayS c t).1 := by
  unfold sayS
  split
  · obtain ⟨h1, h2, h3, h4, h5, h6⟩ := h
    have := wrap_rng ((if c.out < 1000000 then c.out else 1000000) + 1)
    exact ⟨h1, h2, h3, h4, this.1, this.2⟩
  · exact h

theorem saysS_CB {c : Client} (t : Term) (step : Int) (h : CB c) : CB (saysS c t step).1 := by
  unfold saysS
  split
  · exact sayS_CB t h
  · exact failS_CB h

theorem fail_some (c : Client) (h : CB c) : ∃ c' l, spec_l9Fail_T c = some (c', l, ()) ∧ CB c' :=
  ⟨_, _, spec_l9Fail_t c (by have := h.1; omega) (by have := h.2.1; omega), failS_CB h⟩

theorem says_some (c : Client) (t : Term) (step : Int) (h : CB c) (ht : t.cost ≤ 400000000) : ∃ c' l, spec_l9Says_T c t step = some (c', l, ()) ∧ CB c' :=
  ⟨_, _, spec_l9Says_t c t step (by have := h.1; omega) (by have := h.2.1; omega) ht h.2.2.2.2.1 h.2.2.2.2.2, saysS_CB t step h⟩

theorem spec_l9Line_c1_t (host : ByteArray) (must : Bool) (eph : Int) (body : Int) (share : Term) (inn : Int) (out : Int) (tls : Bool) (prv : Bool) (line : ByteArray) (hc : CB (Client.mk 1 host must eph body share inn out tls prv)) : ∃ c' l, spec_l9Line_T (Client.mk 1 host must eph body share inn out tls prv) line = some (c', l, ()) ∧ CB c' := by
  obtain ⟨cf, lf, ef, bf⟩ := fail_some (Client.mk 1 host must eph body share inn out tls prv) hc
  by_cases h : line = w220
  · have h' : decide (line = (⟨#[50, 50, 48]⟩ : ByteArray)) = true := decide_eq_true h
    obtain ⟨c1, l1, e1, b1⟩ := says_some (Client.mk 1 host must eph body share inn out tls prv) (textT ⟨#[101, 104, 108, 111]⟩) 2 hc (text_le' _ (by decide))
    exact ⟨c1, l1, spec_l9Line_c1_of 0 host must eph body share inn out tls prv line (by unfold spec_l9Line_c1_R; simp only [beq_bytes, h', br_t, spec_l8Text_t, qb_s, e1, Term.eta]), b1⟩
  · have h' : decide (line = (⟨#[50, 50, 48]⟩ : ByteArray)) = false := decide_eq_false h
    exact ⟨cf, lf, spec_l9Line_c1_of 0 host must eph body share inn out tls prv line (by unfold spec_l9Line_c1_R; simp only [beq_bytes, h', br_f, ef, qb_s, Term.eta]), bf⟩

theorem spec_l9Line_c2_t (host : ByteArray) (must : Bool) (eph : Int) (body : Int) (share : Term) (inn : Int) (out : Int) (tls : Bool) (prv : Bool) (line : ByteArray) (hc : CB (Client.mk 2 host must eph body share inn out tls prv)) : ∃ c' l, spec_l9Line_T (Client.mk 2 host must eph body share inn out tls prv) line = some (c', l, ()) ∧ CB c' := by
  obtain ⟨cf, lf, ef, bf⟩ := fail_some (Client.mk 2 host must eph body share inn out tls prv) hc
  by_cases h : line = w250s
  · have h' : decide (line = (⟨#[50, 53, 48, 32, 115, 116, 97, 114, 116, 116, 108, 115]⟩ : ByteArray)) = true := decide_eq_true h
    obtain ⟨c1, l1, e1, b1⟩ := says_some (Client.mk 2 host must eph body share inn out tls prv) (textT ⟨#[115, 116, 97, 114, 116, 116, 108, 115]⟩) 3 hc (text_le' _ (by decide))
    exact ⟨c1, l1, spec_l9Line_c2_of 0 host must eph body share inn out tls prv line (by unfold spec_l9Line_c2_R; simp only [beq_bytes, h', br_t, spec_l8Text_t, qb_s, e1, Term.eta]), b1⟩
  · have h' : decide (line = (⟨#[50, 53, 48, 32, 115, 116, 97, 114, 116, 116, 108, 115]⟩ : ByteArray)) = false := decide_eq_false h
    obtain ⟨c1, l1, e1, b1⟩ := says_some (Client.mk 2 host must eph body share inn out tls prv) (textT ⟨#[109, 97, 105, 108]⟩) 5 hc (text_le' _ (by decide))
    have hR : spec_l9Line_T (Client.mk 2 host must eph body share inn out tls prv) line = some (cf, lf, ()) ∨ spec_l9Line_T (Client.mk 2 host must eph body share inn out tls prv) line = some (c1, l1, ()) := by
      cases g : decide (line = (⟨#[50, 53, 48]⟩ : ByteArray)) <;> cases hm : must <;> subst hm <;> first | (refine .inl (spec_l9Line_c2_of 0 _ _ _ _ _ _ _ _ _ line ?_); unfold spec_l9Line_c2_R; simp only [beq_bytes, h', g, br_t, br_f, Bool.not_true, Bool.not_false, spec_l8Text_t, qb_s, ef, e1, Term.eta]; done) | (refine .inr (spec_l9Line_c2_of 0 _ _ _ _ _ _ _ _ _ line ?_); unfold spec_l9Line_c2_R; simp only [beq_bytes, h', g, br_t, br_f, Bool.not_true, Bool.not_false, spec_l8Text_t, qb_s, ef, e1, Term.eta]; done)
    rcases hR with hR | hR
    · exact ⟨cf, lf, hR, bf⟩
    · exact ⟨c1, l1, hR, b1⟩

theorem spec_l9Line_c3_t (host : ByteArray) (must : Bool) (eph : Int) (body : Int) (share : Term) (inn : Int) (out : Int) (tls : Bool) (prv : Bool) (line : ByteArray) (hc : CB (Client.mk 3 host must eph body share inn out tls prv)) : ∃ c' l, spec_l9Line_T (Client.mk 3 host must eph body share inn out tls prv) line = some (c', l, ()) ∧ CB c' := by
  obtain ⟨cf, lf, ef, bf⟩ := fail_some (Client.mk 3 host must eph body share inn out tls prv) hc
  by_cases h : line = w220
  · have h' : decide (line = (⟨#[50, 50, 48]⟩ : ByteArray)) = true := decide_eq_true h
    exact ⟨Client.mk 4 host must eph body share inn out tls prv, [helloT (atomT eph)], spec_l9Line_c3_of 0 host must eph body share inn out tls prv line (by unfold spec_l9Line_c3_R; simp only [beq_bytes, h', br_t, spec_Atom_t, spec_Hello_t (atomT eph) (by rw [atomT_cost]; omega), qb_s, Term.eta]), hc⟩
  · have h' : decide (line = (⟨#[50, 50, 48]⟩ : ByteArray)) = false := decide_eq_false h
    exact ⟨cf, lf, spec_l9Line_c3_of 0 host must eph body share inn out tls prv line (by unfold spec_l9Line_c3_R; simp only [beq_bytes, h', br_f, ef, qb_s, Term.eta]), bf⟩

theorem spec_l9Line_c4_t (host : ByteArray) (must : Bool) (eph : Int) (body : Int) (share : Term) (inn : Int) (out : Int) (tls : Bool) (prv : Bool) (line : ByteArray) (hc : CB (Client.mk 4 host must eph body share inn out tls prv)) : ∃ c' l, spec_l9Line_T (Client.mk 4 host must eph body share inn out tls prv) line = some (c', l, ()) ∧ CB c' := by
  obtain ⟨cf, lf, ef, bf⟩ := fail_some (Client.mk 4 host must eph body share inn out tls prv) hc
  exact ⟨cf, lf, spec_l9Line_c4_of 0 host must eph body share inn out tls prv line (by unfold spec_l9Line_c4_R; simp only [ef, qb_s, Term.eta]), bf⟩

theorem spec_l9Line_c5_t (host : ByteArray) (must : Bool) (eph : Int) (body : Int) (share : Term) (inn : Int) (out : Int) (tls : Bool) (prv : Bool) (line : ByteArray) (hc : CB (Client.mk 5 host must eph body share inn out tls prv)) : ∃ c' l, spec_l9Line_T (Client.mk 5 host must eph body share inn out tls prv) line = some (c', l, ()) ∧ CB c' := by
  obtain ⟨cf, lf, ef, bf⟩ := fail_some (Client.mk 5 host must eph body share inn out tls prv) hc
  by_cases h : line = w250
  · have h' : decide (line = (⟨#[50, 53, 48]⟩ : ByteArray)) = true := decide_eq_true h
    obtain ⟨c1, l1, e1, b1⟩ := says_some (Client.mk 5 host must eph body share inn out tls prv) (textT ⟨#[114, 99, 112, 116]⟩) 6 hc (text_le' _ (by decide))
    exact ⟨c1, l1, spec_l9Line_c5_of 0 host must eph body share inn out tls prv line (by unfold spec_l9Line_c5_R; simp only [beq_bytes, h', br_t, spec_l8Text_t, qb_s, e1, Term.eta]), b1⟩
  · have h' : decide (line = (⟨#[50, 53, 48]⟩ : ByteArray)) = false := decide_eq_false h
    exact ⟨cf, lf, spec_l9Line_c5_of 0 host must eph body share inn out tls prv line (by unfold spec_l9Line_c5_R; simp only [beq_bytes, h', br_f, ef, qb_s, Term.eta]), bf⟩

theorem spec_l9Line_c6_t (host : ByteArray) (must : Bool) (eph : Int) (body : Int) (share : Term) (inn : Int) (out : Int) (tls : Bool) (prv : Bool) (line : ByteArray) (hc : CB (Client.mk 6 host must eph body share inn out tls prv)) : ∃ c' l, spec_l9Line_T (Client.mk 6 host must eph body share inn out tls prv) line = some (c', l, ()) ∧ CB c' := by
  obtain ⟨cf, lf, ef, bf⟩ := fail_some (Client.mk 6 host must eph body share inn out tls prv) hc
  by_cases h : line = w250
  · have h' : decide (line = (⟨#[50, 53, 48]⟩ : ByteArray)) = true := decide_eq_true h
    obtain ⟨c1, l1, e1, b1⟩ := says_some (Client.mk 6 host must eph body share inn out tls prv) (textT ⟨#[100, 97, 116, 97]⟩) 7 hc (text_le' _ (by decide))
    exact ⟨c1, l1, spec_l9Line_c6_of 0 host must eph body share inn out tls prv line (by unfold spec_l9Line_c6_R; simp only [beq_bytes, h', br_t, spec_l8Text_t, qb_s, e1, Term.eta]), b1⟩
  · have h' : decide (line = (⟨#[50, 53, 48]⟩ : ByteArray)) = false := decide_eq_false h
    exact ⟨cf, lf, spec_l9Line_c6_of 0 host must eph body share inn out tls prv line (by unfold spec_l9Line_c6_R; simp only [beq_bytes, h', br_f, ef, qb_s, Term.eta]), bf⟩

theorem spec_l9Line_c7_t (host : ByteArray) (must : Bool) (eph : Int) (body : Int) (share : Term) (inn : Int) (out : Int) (tls : Bool) (prv : Bool) (line : ByteArray) (hc : CB (Client.mk 7 host must eph body share inn out tls prv)) : ∃ c' l, spec_l9Line_T (Client.mk 7 host must eph body share inn out tls prv) line = some (c', l, ()) ∧ CB c' := by
  obtain ⟨cf, lf, ef, bf⟩ := fail_some (Client.mk 7 host must eph body share inn out tls prv) hc
  by_cases h : line = w354
  · have h' : decide (line = (⟨#[51, 53, 52]⟩ : ByteArray)) = true := decide_eq_true h
    obtain ⟨c1, l1, e1, b1⟩ := says_some (Client.mk 7 host must eph body share inn out tls prv) (mkT 3 [textT ⟨#[98, 111, 100, 121]⟩, atomT body]) 8 hc (Nat.le_trans (mkT_cost _ _) (by decide))
    exact ⟨c1, l1, spec_l9Line_c7_of 0 host must eph body share inn out tls prv line (by unfold spec_l9Line_c7_R; simp only [beq_bytes, h', br_t, spec_l8Text_t, qb_s, spec_Atom_t, spec_Pair_t (textT ⟨#[98, 111, 100, 121]⟩) (atomT body) (text_le' _ (by decide)) (by rw [atomT_cost]; omega), e1, Term.eta]), b1⟩
  · have h' : decide (line = (⟨#[51, 53, 52]⟩ : ByteArray)) = false := decide_eq_false h
    exact ⟨cf, lf, spec_l9Line_c7_of 0 host must eph body share inn out tls prv line (by unfold spec_l9Line_c7_R; simp only [beq_bytes, h', br_f, ef, qb_s, Term.eta]), bf⟩

theorem spec_l9Line_c8_t (host : ByteArray) (must : Bool) (eph : Int) (body : Int) (share : Term) (inn : Int) (out : Int) (tls : Bool) (prv : Bool) (line : ByteArray) (hc : CB (Client.mk 8 host must eph body share inn out tls prv)) : ∃ c' l, spec_l9Line_T (Client.mk 8 host must eph body share inn out tls prv) line = some (c', l, ()) ∧ CB c' := by
  obtain ⟨cf, lf, ef, bf⟩ := fail_some (Client.mk 8 host must eph body share inn out tls prv) hc
  by_cases h : line = w250
  · have h' : decide (line = (⟨#[50, 53, 48]⟩ : ByteArray)) = true := decide_eq_true h
    exact ⟨Client.mk 9 host must eph body share inn out tls prv, [], spec_l9Line_c8_of 0 host must eph body share inn out tls prv line (by unfold spec_l9Line_c8_R; simp only [beq_bytes, h', br_t, qb_s, Term.eta]), hc⟩
  · have h' : decide (line = (⟨#[50, 53, 48]⟩ : ByteArray)) = false := decide_eq_false h
    exact ⟨cf, lf, spec_l9Line_c8_of 0 host must eph body share inn out tls prv line (by unfold spec_l9Line_c8_R; simp only [beq_bytes, h', br_f, ef, qb_s, Term.eta]), bf⟩

theorem spec_l9Line_c9_t (host : ByteArray) (must : Bool) (eph : Int) (body : Int) (share : Term) (inn : Int) (out : Int) (tls : Bool) (prv : Bool) (line : ByteArray) (hc : CB (Client.mk 9 host must eph body share inn out tls prv)) : ∃ c' l, spec_l9Line_T (Client.mk 9 host must eph body share inn out tls prv) line = some (c', l, ()) ∧ CB c' := by
  obtain ⟨cf, lf, ef, bf⟩ := fail_some (Client.mk 9 host must eph body share inn out tls prv) hc
  exact ⟨cf, lf, spec_l9Line_c9_of 0 host must eph body share inn out tls prv line (by unfold spec_l9Line_c9_R; simp only [ef, qb_s, Term.eta]), bf⟩

theorem spec_l9Line_c10_t (host : ByteArray) (must : Bool) (eph : Int) (body : Int) (share : Term) (inn : Int) (out : Int) (tls : Bool) (prv : Bool) (line : ByteArray) (hc : CB (Client.mk 10 host must eph body share inn out tls prv)) : ∃ c' l, spec_l9Line_T (Client.mk 10 host must eph body share inn out tls prv) line = some (c', l, ()) ∧ CB c' := by
  obtain ⟨cf, lf, ef, bf⟩ := fail_some (Client.mk 10 host must eph body share inn out tls prv) hc
  exact ⟨cf, lf, spec_l9Line_c10_of 0 host must eph body share inn out tls prv line (by unfold spec_l9Line_c10_R; simp only [ef, qb_s, Term.eta]), bf⟩

theorem spec_l9Line_t (c : Client) (line : ByteArray) (s0 : 1 ≤ c.step) (s1 : c.step ≤ 10) (hc : CB c) : ∃ c' l, spec_l9Line_T c line = some (c', l, ()) ∧ CB c' := by
  obtain ⟨step, host, must, eph, body, share, inn, out, tls, prv⟩ := c
  dsimp only at s0 s1
  have hk : step = 1 ∨ step = 2 ∨ step = 3 ∨ step = 4 ∨ step = 5 ∨ step = 6 ∨ step = 7 ∨ step = 8 ∨ step = 9 ∨ step = 10 := by omega
  rcases hk with rfl | rfl | rfl | rfl | rfl | rfl | rfl | rfl | rfl | rfl
  · exact spec_l9Line_c1_t host must eph body share inn out tls prv line hc
  · exact spec_l9Line_c2_t host must eph body share inn out tls prv line hc
  · exact spec_l9Line_c3_t host must eph body share inn out tls prv line hc
  · exact spec_l9Line_c4_t host must eph body share inn out tls prv line hc
  · exact spec_l9Line_c5_t host must eph body share inn out tls prv line hc
  · exact spec_l9Line_c6_t host must eph body share inn out tls prv line hc
  · exact spec_l9Line_c7_t host must eph body share inn out tls prv line hc
  · exact spec_l9Line_c8_t host must eph body share inn out tls prv line hc
  · exact spec_l9Line_c9_t host must eph body share inn out tls prv line hc
  · exact spec_l9Line_c10_t host must eph body share inn out tls prv line hc

end Go.Proofs.YtgegmojoakkohaaGreatDoor
