/-
  Clients and servers that are right; new clients.
-/
import Derived.Test.YtgegmojoakkohaaGreatDoorNdTk
import Derived.Test.YtgegmojoakkohaaGreatDoorNdHo
import Derived.Test.YtgegmojoakkohaaGreatDoorVm6
namespace Go.Proofs.YtgegmojoakkohaaGreatDoor
open Go.Vm
set_option linter.unusedVariables false
set_option linter.unusedSimpArgs false

theorem spec_ClientOk_t (c : Client) (hc : c.share.cost < 4611686018427387900) (hh : c.host.size ≤ 900000000) : spec_ClientOk_T c = some (clientOk c) := by
  refine spec_ClientOk_of 0 c ?_
  unfold spec_ClientOk_R
  have h3 : spec_Same_T c.share (Term.mk 0 0 (ByteArray.mk #[]) []) = some (decide (c.share = zeroT)) := spec_Same_t c.share (by omega) zeroT
  simp only [spec_l1In_t, spec_HostOk_t c.host hh, spec_TermOk_t c.share hc, h3, qb_s]
  obtain ⟨step, host, must, eph, body, share, inn, out, tls, proved⟩ := c
  unfold clientOk inR
  simp only
  generalize (decide (1 ≤ step) && decide (step ≤ 10)) = b1
  generalize hostOk host = b2
  generalize (decide (0 ≤ eph) && decide (eph ≤ 1000000)) = b3
  generalize (decide (0 ≤ body) && decide (body ≤ 1000000)) = b4
  generalize (decide (0 ≤ inn) && decide (inn ≤ 100)) = b5
  generalize (decide (0 ≤ out) && decide (out ≤ 100)) = b6
  generalize decide (share = zeroT) = b7
  generalize share.ok = b8
  generalize (decide (5 ≤ step) && decide (step ≤ 9)) = b9
  cases b1; · rfl
  cases b2; · rfl
  cases b3; · rfl
  cases b4; · rfl
  cases b5; · rfl
  cases b6; · rfl
  cases tls <;> cases b7 <;> cases b8 <;> cases proved <;> cases must <;> cases b9 <;> rfl

theorem impl_ClientOk_t (c : Client) (hc : c.share.cost < 4611686018427387900) (hh : c.host.size ≤ 900000000) : impl_ClientOk_T c = some (clientOk c) := by
  refine impl_ClientOk_of 0 c ?_
  unfold impl_ClientOk_R
  simp only [impl_in_t, impl_isAtom_t, impl_HostOk_t c.host hh, impl_TermOk_t c.share hc, impl_noTerm_t c.share hc, qb_s]
  obtain ⟨step, host, must, eph, body, share, inn, out, tls, proved⟩ := c
  unfold clientOk inR isAtom
  simp only
  generalize (decide (1 ≤ step) && decide (step ≤ 10)) = b1
  generalize hostOk host = b2
  generalize (decide (0 ≤ eph) && decide (eph ≤ 1000000)) = b3
  generalize (decide (0 ≤ body) && decide (body ≤ 1000000)) = b4
  generalize (decide (0 ≤ inn) && decide (inn ≤ 100)) = b5
  generalize (decide (0 ≤ out) && decide (out ≤ 100)) = b6
  generalize decide (share = zeroT) = b7
  generalize share.ok = b8
  generalize (decide (5 ≤ step) && decide (step ≤ 9)) = b9
  cases b1; · rfl
  cases b2; · rfl
  cases b3; · rfl
  cases b4; · rfl
  cases b5; · rfl
  cases b6; · rfl
  cases tls <;> cases b7 <;> cases b8 <;> cases proved <;> cases must <;> cases b9 <;> rfl

theorem spec_ClientNew_t (host : ByteArray) (must : Bool) (eph body : Int) (hh : host.size ≤ 900000000) : spec_ClientNew_T host must eph body = some ((clientNew host must eph body).1, (clientNew host must eph body).2, ()) := by
  refine spec_ClientNew_of 0 host must eph body ?_
  unfold spec_ClientNew_R
  refine (qb_run (spec_ClientOk_t (newClient host must eph body) (show zeroT.cost < 4611686018427387900 by decide) hh)).trans ?_
  unfold clientNew
  cases clientOk (newClient host must eph body) <;> rfl

end Go.Proofs.YtgegmojoakkohaaGreatDoor
