/-
  Certificates, and what is proved by them.
-/
import Derived.Test.YtgegmojoakkohaaGreatDoorMeKe
import Derived.Test.YtgegmojoakkohaaGreatDoorMeDg
import Derived.Test.YtgegmojoakkohaaGreatDoorMeHo
namespace Go.Proofs.YtgegmojoakkohaaGreatDoor
open Go.Vm
set_option linter.unusedVariables false
set_option linter.unusedSimpArgs false

theorem spec_l3Num_t (k : Int) (h0 : -9223372036854775808 ≤ k) (h1 : k ≤ 9223372036854775807) : spec_l3Num_T k = some (textT (itoaB k)) := by
  refine spec_l3Num_of 0 k ?_
  unfold spec_l3Num_R
  rw [spec_l1Digits_t k h0 h1]
  rfl
theorem impl_digits_t (k : Int) (h0 : -9223372036854775808 ≤ k) (h1 : k ≤ 9223372036854775807) : impl_digits_T k = some (textT (itoaB k)) := by
  refine impl_digits_of 0 k ?_
  unfold impl_digits_R
  rw [Itoa_t k h0 h1, qb_s, impl_text_t, qb_s, Term.eta]
theorem spec_CertOk_t (c : Cert) (hh : c.host.size ≤ 900000000) (hp : c.pub.cost ≤ 400000000) : spec_CertOk_T c = some (certOk c) := by
  refine spec_CertOk_of 0 c ?_
  unfold spec_CertOk_R
  simp only [spec_HostOk_t c.host hh, spec_TermOk_t c.pub (by omega), spec_l1In_t, qb_s, beq_int]
  unfold certOk inR
  cases hostOk c.host <;> cases decide (c.pub.op = 4) <;> cases c.pub.ok <;> rfl
theorem impl_CertOk_t (c : Cert) (hh : c.host.size ≤ 900000000) (hp : c.pub.cost ≤ 400000000) : impl_CertOk_T c = some (certOk c) := by
  refine impl_CertOk_of 0 c ?_
  unfold impl_CertOk_R
  simp only [impl_HostOk_t c.host hh, impl_TermOk_t c.pub (by omega), impl_in_t, qb_s, beq_int]
  unfold certOk inR
  cases hostOk c.host <;> cases decide (c.pub.op = 4) <;> cases c.pub.ok <;> rfl
theorem spec_CertTerm_t (c : Cert) (hh : c.host.size ≤ 900000000) (hp : c.pub.cost ≤ 400000000) : spec_CertTerm_T c = some (certT c) := by
  refine spec_CertTerm_of 0 c ?_
  unfold spec_CertTerm_R certT
  rw [spec_CertOk_t c hh hp, qb_s]
  cases hc : certOk c with
  | false => rfl
  | true =>
    obtain ⟨t0, t1⟩ := certOk_til hc
    have hsz := itoaB_size (n := c.til) (by omega) (by omega)
    have c1 := mkT_cost 3 [c.pub, textT (itoaB c.til)]
    have c2 := mkT_cost 3 [textT c.host, mkT 3 [c.pub, textT (itoaB c.til)]]
    rw [Bool.not_true, br_f, spec_Atom_t, qb_s, spec_l3Num_t c.til (by omega) (by omega), qb_s, spec_Pair_t c.pub _ hp (by rw [textT_cost]; omega), qb_s, show (Term.mk 2 0 c.host [] : Term) = textT c.host from rfl]
    have hh' := certOk_host hc
    rw [spec_Pair_t (textT c.host) _ (by rw [textT_cost]; omega) (by omega), qb_s, spec_Sign_t _ _ (by rw [atomT_cost]; omega) (by omega), qb_s, Term.eta]
    rfl
theorem impl_CertTerm_t (c : Cert) (hh : c.host.size ≤ 900000000) (hp : c.pub.cost ≤ 400000000) : impl_CertTerm_T c = some (certT c) := by
  refine impl_CertTerm_of 0 c ?_
  unfold impl_CertTerm_R certT
  rw [impl_CertOk_t c hh hp, qb_s]
  cases hc : certOk c with
  | false => rfl
  | true =>
    obtain ⟨t0, t1⟩ := certOk_til hc
    have hsz := itoaB_size (n := c.til) (by omega) (by omega)
    have c1 := mkT_cost 3 [c.pub, textT (itoaB c.til)]
    have c2 := mkT_cost 3 [textT c.host, mkT 3 [c.pub, textT (itoaB c.til)]]
    have hh' := certOk_host hc
    rw [Bool.not_true, br_f, impl_Atom_t, qb_s, impl_text_t, qb_s, impl_digits_t c.til (by omega) (by omega), qb_s, impl_Pair_t c.pub _ hp (by rw [textT_cost]; omega), qb_s]
    rw [impl_Pair_t (textT c.host) _ (by rw [textT_cost]; omega) (by omega), qb_s, impl_Sign_t _ _ (by rw [atomT_cost]; omega) (by omega), qb_s, Term.eta]
    rfl
theorem impl_CertOf_t (t : Term) (ht : t.cost ≤ 400000000) : impl_CertOf_T t = some ((certOf t).1, (certOf t).2, ()) := by
  refine impl_CertOf_of 0 t ?_
  unfold impl_CertOf_R
  have hm := mkT_cost 4 [atomT 1]
  rw [impl_Atom_t, qb_s, impl_Pub_t _ (by rw [atomT_cost]; omega), qb_s, impl_Signed_t _ t (by omega) ht, qb_s]
  have ez : impl_twoOf_T zeroT = some (zeroT, zeroT, false, ()) := by rw [impl_twoOf_t, twoOf_none (by decide)]
  have az := Atoi_t zeroT.s (by decide)
  cases hs2 : (signed (mkT 4 [atomT 1]) t).2 with
  | false =>
    rw [certOf_no (by rw [hs2]; simp), signed_none hs2]
    simp only [ez, qb_s, az]
    cases (atoiB zeroT.s).2 <;> rfl
  | true =>
    obtain ⟨hok, h8, k, y, hk, hy, hyo⟩ := signed_some hs2
    have hs : signed (mkT 4 [atomT 1]) t = (y, true) := Prod.ext hy hs2
    rw [hs]
    by_cases h3 : y.op = 3
    case neg =>
      rw [certOf_no (by rw [hs]; simp [h3])]
      have e1 : impl_twoOf_T y = some (zeroT, zeroT, false, ()) := by rw [impl_twoOf_t, twoOf_none h3]
      simp only [e1, ez, qb_s, az]
      cases (atoiB zeroT.s).2 <;> rfl
    obtain ⟨a, b, hyk⟩ := Term.two hyo (by rw [h3]; rfl)
    have hao : a.ok = true := Term.ok_kids hyo (by rw [hyk]; simp)
    have hbo : b.ok = true := Term.ok_kids hyo (by rw [hyk]; simp)
    have e1 : impl_twoOf_T y = some (a, b, true, ()) := by rw [impl_twoOf_t, twoOf_some h3 hyk]
    by_cases h3b : b.op = 3
    case neg =>
      rw [certOf_no (by rw [hs]; simp [hyk, h3b])]
      have e2 : impl_twoOf_T b = some (zeroT, zeroT, false, ()) := by rw [impl_twoOf_t, twoOf_none h3b]
      simp only [e1, e2, qb_s, az]
      cases (atoiB zeroT.s).2 <;> rfl
    obtain ⟨p, u, hbk⟩ := Term.two hbo (by rw [h3b]; rfl)
    have hpo := Term.cost_ok (Term.ok_kids (x := p) hbo (by rw [hbk]; simp))
    have huo : u.ok = true := Term.ok_kids hbo (by rw [hbk]; simp)
    have has : a.s.size ≤ 300 := by unfold Term.ok at hao; simp only [Bool.and_eq_true] at hao; exact Term.form_s hao.2
    have hus : u.s.size ≤ 300 := by unfold Term.ok at huo; simp only [Bool.and_eq_true] at huo; exact Term.form_s huo.2
    have e2 : impl_twoOf_T b = some (p, u, true, ()) := by rw [impl_twoOf_t, twoOf_some h3b hbk]
    simp only [e1, e2, qb_s, Atoi_t u.s (by omega)]
    cases he : (atoiB u.s).2 with
    | true =>
      rw [certOf_bad hs h3 hyk h3b hbk he]
      rfl
    | false =>
      have hct := certT_cost ⟨a.s, p, (atoiB u.s).1⟩
      rw [certOf_read hs h3 hyk h3b hbk (atoiB u.s).1 (by intro m hm e; rw [e, atoiB_nat (by omega)])]
      simp only [br_f, br_t, Bool.not_true, qb_s, impl_clone_t p (by omega), impl_CertTerm_t ⟨a.s, p, (atoiB u.s).1⟩ (show a.s.size ≤ _ by omega) (show p.cost ≤ _ by omega), impl_Same_t (certT ⟨a.s, p, (atoiB u.s).1⟩) (by omega), Term.eta, bne_int]
      by_cases hc : certT ⟨a.s, p, (atoiB u.s).1⟩ = t
      · simp [hc, h8, br]
      · rw [if_neg hc]
        cases decide ((certT ⟨a.s, p, (atoiB u.s).1⟩).op = 8) <;> simp [hc, br, noCert, zeroT]
theorem impl_CertGood_t (t : Term) (host : ByteArray) (now : Int) (ht : t.cost ≤ 400000000) : impl_CertGood_T t host now = some ((certGood t host now).1, (certGood t host now).2, ()) := by
  refine impl_CertGood_of 0 t host now ?_
  unfold impl_CertGood_R certGood
  rw [impl_CertOf_t t ht, qb_s]
  simp only [not_beq_bytes, Term.eta]
  generalize certOf t = c
  obtain ⟨c, b⟩ := c
  simp only
  cases b <;> by_cases h1 : c.host = host <;> by_cases h2 : c.til < now <;> simp [h1, h2, br, zeroT]
theorem impl_Proved_t (e pub cert sign : Term) (host : ByteArray) (now : Int) (he : e.cost ≤ 400000000) (hp : pub.cost ≤ 400000000) (hc : cert.cost ≤ 400000000) (hs : sign.cost ≤ 400000000) : impl_Proved_T e pub cert sign host now = some (proved e pub cert sign host now) := by
  refine impl_Proved_of 0 e pub cert sign host now ?_
  have hg := certGood_cost cert host now
  have h4 := mkT_cost 4 [e]
  unfold impl_Proved_R proved
  rw [impl_CertGood_t cert host now hc, qb_s]
  generalize certGood cert host now = g at hg ⊢
  obtain ⟨g, b⟩ := g
  have hgs := signed_cost g sign
  simp only at hg ⊢
  simp only [impl_Signed_t g sign (by omega) hs, qb_s, impl_Pub_t e he, impl_Both_t (mkT 4 [e]) pub (by omega) hp, impl_Same_t (signed g sign).1 (by omega), beq_int]
  generalize (signed g sign).1 = x
  generalize bothT (mkT 4 [e]) pub = y
  by_cases hxy : x = y
  · subst hxy
    cases b <;> cases (signed g sign).2 <;> cases decide (x.op = 6) <;> rfl
  · cases b <;> cases (signed g sign).2 <;> cases decide (x.op = 6) <;> cases decide (y.op = 6) <;> simp [hxy, br]
end Go.Proofs.YtgegmojoakkohaaGreatDoor
