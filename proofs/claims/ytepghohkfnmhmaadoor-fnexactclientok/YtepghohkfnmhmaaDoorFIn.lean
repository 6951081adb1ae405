/-
  Numbers in a range.
-/
import Derived.Test.YtepghohkfnmhmaaDoorFRes
import Derived.Test.YtepghohkfnmhmaaDoorVmLp
namespace Go.Proofs.YtepghohkfnmhmaaDoor
open Go.Vm
set_option linter.unusedVariables false
set_option linter.unusedSimpArgs false

theorem spec_l1In_p (n lo hi : Int) : pres RN 31 [.int n, .int lo, .int hi] = some (.bool (decide (lo ≤ n) && decide (n ≤ hi))) := by
  refine pres_f (rn_of_resid (n := 0) ?_)
  rw [spec_l1In_res]
  by_cases h : lo ≤ n <;> simp [br, h]

theorem impl_in_p (n lo hi : Int) : pres RN 36 [.int n, .int lo, .int hi] = some (.bool (decide (lo ≤ n) && decide (n ≤ hi))) := by
  refine pres_f (rn_of_resid (n := 0) ?_)
  rw [impl_in_res]
  by_cases h : lo ≤ n <;> simp [br, h]

theorem impl_isAtom_p (n : Int) : pres RN 38 [.int n] = some (.bool (isAtom n)) := by
  refine pres_f (rn_of_resid (n := 0) ?_)
  rw [impl_isAtom_res, impl_in_p]
  rfl

end Go.Proofs.YtepghohkfnmhmaaDoor
