/-
  Numbers in a range; terms: size, order, what is right.
-/
import Derived.Test.YtepghohkfnmhmaaDoorWtRes
import Derived.Test.YtepghohkfnmhmaaDoorVm6
namespace Go.Proofs.YtepghohkfnmhmaaDoor
open Go.Vm
set_option linter.unusedVariables false
set_option linter.unusedSimpArgs false

theorem impl_in_t (n lo hi : Int) : impl_in_T n lo hi = some (decide (lo ≤ n) && decide (n ≤ hi)) := by
  refine impl_in_of 0 n lo hi ?_
  unfold impl_in_R
  by_cases h : lo ≤ n <;> simp [br, h]

/-! ### Size -/

/-! ### Same -/

/-! ### Order -/

end Go.Proofs.YtepghohkfnmhmaaDoor
