/-
  Calls: what they hear and say, as the reference has it: exactly where a line is heard without a seal, else some answer.
-/
import Derived.Test.YtgegmojoakkohaaGreatDoorNdMm
import Derived.Test.YtgegmojoakkohaaGreatDoorNdCl
namespace Go.Proofs.YtgegmojoakkohaaGreatDoor
open Go.Vm
set_option linter.unusedVariables false
set_option linter.unusedSimpArgs false

/-- Bounds of a call. -/
def CB (c : Client) : Prop := c.share.cost ≤ 100000 ∧ c.host.size ≤ 100 ∧ -9223372036854775808 ≤ c.inn ∧ c.inn ≤ 9223372036854775807 ∧ -9223372036854775808 ≤ c.out ∧ c.out ≤ 9223372036854775807

theorem l1Min_t (a b : Int) : spec_l1Min_T a b = some (if a < b then a else b) := by
  refine spec_l1Min_of 0 a b ?_
  unfold spec_l1Min_R
  by_cases h : a < b
  · rw [decide_eq_true h, if_pos h]; rfl
  · rw [decide_eq_false h, if_neg h]; rfl

theorem text_le' (s : ByteArray) (h : s.size ≤ 400000000) : (textT s).cost ≤ 400000000 := by rw [textT_cost]; exact h

theorem spec_l9Copy_t (c : Client) (hs : c.share.cost ≤ 400000000) : spec_l9Copy_T c = some c := by
  refine spec_l9Copy_of 0 c ?_
  unfold spec_l9Copy_R
  rw [spec_l1Copy_t c.share (by omega), qb_s, Term.eta]

def sayS (c : Client) (t : Term) : Client × Term :=
  if c.tls = true then ({ c with out := IntKind.i64.wrap ((if c.out < 1000000 then c.out else 1000000) + 1) }, sealT (keyT c.share 1) c.out t) else (c, t)

theorem spec_ClientSay_t (c : Client) (t : Term) (hs : c.share.cost ≤ 400000000) (ht : t.cost ≤ 400000000) (o0 : -9223372036854775808 ≤ c.out) (o1 : c.out ≤ 9223372036854775807) : spec_ClientSay_T c t = some ((sayS c t).1, (sayS c t).2, ()) := by
  refine spec_ClientSay_of 0 c t ?_
  unfold spec_ClientSay_R sayS
  rw [spec_l9Copy_t c hs, qb_s]
  cases h : c.tls with
  | false => rw [Bool.not_false, br_t, spec_l1Copy_t t (by omega), qb_s]; simp only [Term.eta]; rw [if_neg (by decide)]; rw [← h]
  | true =>
    rw [Bool.not_true, br_f, l1Min_t, qb_s, spec_KeyOf_t c.share 1 hs (by omega) (by omega), qb_s, spec_Seal_t _ c.out t (show (keyT c.share 1).cost ≤ 400000000 from Nat.le_trans (mkT_cost _ _) (by decide)) ht o0 o1, qb_s, if_pos rfl]
    simp only [Term.eta, h]

def failS (c : Client) : Client :=
  if clientOk { c with step := 10 } = true then { c with step := 10 } else { c with step := 10, share := zeroT, tls := false, proved := false }

theorem spec_l9Fail_t (c : Client) (hs : c.share.cost ≤ 400000000) (hh : c.host.size ≤ 900000000) : spec_l9Fail_T c = some (failS c, [], ()) := by
  refine spec_l9Fail_of 0 c ?_
  unfold spec_l9Fail_R failS
  rw [spec_ClientOk_t { c with step := 10 } (show c.share.cost < _ by omega) hh, qb_s]
  cases clientOk { c with step := 10 } with
  | false => rfl
  | true => simp only [Term.eta]; rfl

def saysS (c : Client) (t : Term) (step : Int) : Client × List Term :=
  if clientOk { (sayS c t).1 with step := step } = true ∧ (sayS c t).2.ok = true then ({ (sayS c t).1 with step := step }, [(sayS c t).2]) else (failS c, [])

theorem sayS_share (c : Client) (t : Term) : (sayS c t).1.share = c.share ∧ (sayS c t).1.host = c.host := by unfold sayS; split <;> exact ⟨rfl, rfl⟩

theorem sayS_cost (c : Client) (t : Term) (ht : t.cost ≤ 400000000) : (sayS c t).2.cost ≤ 400000000 := by
  unfold sayS
  split
  · exact Nat.le_trans (mkT_cost _ _) (by decide)
  · exact ht

theorem spec_l9Says_t (c : Client) (t : Term) (step : Int) (hs : c.share.cost ≤ 400000000) (hh : c.host.size ≤ 900000000) (ht : t.cost ≤ 400000000) (o0 : -9223372036854775808 ≤ c.out) (o1 : c.out ≤ 9223372036854775807) : spec_l9Says_T c t step = some ((saysS c t step).1, (saysS c t step).2, ()) := by
  refine spec_l9Says_of 0 c t step ?_
  obtain ⟨e1, e2⟩ := sayS_share c t
  have e3 := sayS_cost c t ht
  unfold spec_l9Says_R saysS
  rw [spec_ClientSay_t c t hs ht o0 o1, qb_s]
  dsimp only
  have hok := spec_ClientOk_t { (sayS c t).1 with step := step } (show (sayS c t).1.share.cost < _ by rw [e1]; omega) (show (sayS c t).1.host.size ≤ _ by rw [e2]; exact hh)
  rw [show (Client.mk step (sayS c t).1.host (sayS c t).1.must (sayS c t).1.eph (sayS c t).1.body (sayS c t).1.share (sayS c t).1.inn (sayS c t).1.out (sayS c t).1.tls (sayS c t).1.proved) = { (sayS c t).1 with step := step } from rfl, hok, qb_s]
  simp only [spec_l9Fail_t c hs hh, qb_s, Term.eta, spec_TermOk_t (sayS c t).2 (by omega)]
  cases h1 : clientOk { (sayS c t).1 with step := step } with
  | false => rw [if_neg (by simp)]; rfl
  | true =>
    cases h2 : (sayS c t).2.ok with
    | false => rw [if_neg (by simp)]; rfl
    | true => rw [if_pos (by simp)]; rfl

end Go.Proofs.YtgegmojoakkohaaGreatDoor
