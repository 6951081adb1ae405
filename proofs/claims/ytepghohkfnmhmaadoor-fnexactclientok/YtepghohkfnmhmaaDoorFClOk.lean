/-
  Clients that are right.
-/
import Derived.Test.YtepghohkfnmhmaaDoorFTRt
import Derived.Test.YtepghohkfnmhmaaDoorFHOk
import Derived.Test.YtepghohkfnmhmaaDoorVmSess
namespace Go.Proofs.YtepghohkfnmhmaaDoor
open Go.Vm
set_option linter.unusedVariables false
set_option linter.unusedSimpArgs false

theorem impl_noTerm_p (t : Term) (hc : t.cost < 4611686018427387900) : pres RN 40 [.ag (Term.cells t)] = some (.bool (decide (t = zeroT))) := by
  have h := pres_f (impl_Same_rn t (by omega) zeroT)
  simp only [Term.cells, V.ag, List.map_cons, List.map_nil] at h
  refine pres_f (rn_of_resid (n := 0) ?_)
  rw [impl_noTerm_res]
  exact (qb_run h).trans rfl

theorem spec_ClientOk_rn (c : Client) (hc : c.share.cost < 4611686018427387900) (hh : c.host.size ≤ 900000000) : RN 9 [.ag (Client.cells c)] [] = some (.bool (clientOk c), [], []) := by
  have h1 := spec_HostOk_p c.host hh
  have h2 := pres_f (spec_TermOk_rn c.share hc)
  have h3 := pres_f (spec_Same_rn c.share (by omega) zeroT)
  simp only [Term.cells, V.ag, List.map_cons, List.map_nil] at h2 h3
  have h3' : pres RN 33 [.agg [.f (.int c.share.op), .f (.int c.share.n), .f (.str c.share.s), .f (.sl false .term c.share.kids)], .agg [.f (.int 0), .f (.int 0), .f (.str ⟨#[]⟩), .f (.sl false .term [])]] = some (.bool (decide (c.share = zeroT))) := h3
  refine rn_of_resid (n := 0) ?_
  rw [spec_ClientOk_res]
  simp only [spec_l1In_p, h1, h2, h3', qb_s, unC_s, fBool_s]
  obtain ⟨step, host, must, eph, body, share, inn, out, tls, proved⟩ := c
  unfold clientOk inR
  simp only
  generalize (decide (1 ≤ step) && decide (step ≤ 10)) = b1
  generalize hostOk host = b2
  generalize (decide (0 ≤ eph) && decide (eph ≤ 1000000)) = b3
  generalize (decide (0 ≤ body) && decide (body ≤ 1000000)) = b4
  generalize (decide (0 ≤ inn) && decide (inn ≤ 100)) = b5
  generalize (decide (0 ≤ out) && decide (out ≤ 100)) = b6
  generalize decide (share = zeroT) = b7
  generalize share.ok = b8
  generalize (decide (5 ≤ step) && decide (step ≤ 9)) = b9
  cases b1; · rfl
  cases b2; · rfl
  cases b3; · rfl
  cases b4; · rfl
  cases b5; · rfl
  cases b6; · rfl
  cases tls <;> cases b7 <;> cases b8 <;> cases proved <;> cases must <;> cases b9 <;> rfl

theorem impl_ClientOk_rn (c : Client) (hc : c.share.cost < 4611686018427387900) (hh : c.host.size ≤ 900000000) : RN 11 [.ag (Client.cells c)] [] = some (.bool (clientOk c), [], []) := by
  have h1 := impl_HostOk_p c.host hh
  have h2 := pres_f (impl_TermOk_rn c.share hc)
  have h3 := impl_noTerm_p c.share hc
  simp only [Term.cells, V.ag, List.map_cons, List.map_nil] at h2 h3
  refine rn_of_resid (n := 0) ?_
  rw [impl_ClientOk_res]
  simp only [impl_in_p, impl_isAtom_p, h1, h2, h3, qb_s, unC_s, fBool_s]
  obtain ⟨step, host, must, eph, body, share, inn, out, tls, proved⟩ := c
  unfold clientOk inR isAtom
  simp only
  generalize (decide (1 ≤ step) && decide (step ≤ 10)) = b1
  generalize hostOk host = b2
  generalize (decide (0 ≤ eph) && decide (eph ≤ 1000000)) = b3
  generalize (decide (0 ≤ body) && decide (body ≤ 1000000)) = b4
  generalize (decide (0 ≤ inn) && decide (inn ≤ 100)) = b5
  generalize (decide (0 ≤ out) && decide (out ≤ 100)) = b6
  generalize decide (share = zeroT) = b7
  generalize share.ok = b8
  generalize (decide (5 ≤ step) && decide (step ≤ 9)) = b9
  cases b1; · rfl
  cases b2; · rfl
  cases b3; · rfl
  cases b4; · rfl
  cases b5; · rfl
  cases b6; · rfl
  cases tls <;> cases b7 <;> cases b8 <;> cases proved <;> cases must <;> cases b9 <;> rfl

end Go.Proofs.YtepghohkfnmhmaaDoor
