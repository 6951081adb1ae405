/-
  What is written of servers.
-/
import Derived.Test.YthhgnkogjccceaaDoorDNam
import Derived.Test.YthhgnkogjccceaaDoorDDig
import Derived.Test.YthhgnkogjccceaaDoorVmText
namespace Go.Proofs.YthhgnkogjccceaaDoor
open Go.Vm
set_option linter.unusedVariables false
set_option linter.unusedSimpArgs false

theorem spec_ServerText_rn (s : Server) (hs : s.host.size ≤ 4611686018427387904) (hg : s.got.length ≤ 1000000000) : RN 21 [.ag (Server.cells s)] [] = some (.str (serverText s), [], []) := by
  refine rn_of_resid (n := 0) ?_
  have hn : (nameOf s.step serverNames).size ≤ 5 := nameOf_size (by omega) (by decide)
  have h1 := pres_f (spec_l17Name_rn s.step false serverNames (by decide))
  have h2 := pres_f (spec_l1Digits_rn s.got.length (by omega) (by omega))
  have s2 := itoaB_size (n := s.got.length) (by omega) (by omega)
  unfold serverText
  unfold serverNames at h1 hn ⊢
  rw [spec_ServerText_res, h1]
  simp only [qb, unC, fStr, h2]
  cases s.tls <;> simp (disch := (simp only [ByteArray.size_append, ba_size, List.size_toArray, List.length_cons, List.length_nil]; omega)) only [catOk_ok, br, cond_true, cond_false]

theorem impl_ServerText_rn (s : Server) (hs : s.host.size ≤ 4611686018427387904) (hg : s.got.length ≤ 1000000000) : RN 23 [.ag (Server.cells s)] [] = some (.str (serverText s), [], []) := by
  refine rn_of_resid (n := 0) ?_
  have hn : (nameOf s.step serverNames).size ≤ 5 := nameOf_size (by omega) (by decide)
  have h1 := pres_f (impl_named_rn s.step false serverNames (by decide))
  have h2 := pres_f (Itoa_rn s.got.length (by omega) (by omega))
  have s2 := itoaB_size (n := s.got.length) (by omega) (by omega)
  unfold serverText
  unfold serverNames at h1 hn ⊢
  rw [impl_ServerText_res, h1]
  simp only [qb, unC, fStr, h2]
  cases s.tls <;> simp (disch := (simp only [ByteArray.size_append, ba_size, List.size_toArray, List.length_cons, List.length_nil]; omega)) only [catOk_ok, br, cond_true, cond_false]

end Go.Proofs.YthhgnkogjccceaaDoor
