/-
  Numbers in a range; terms: size, order, what is right.
-/
import Derived.Test.YtepghohkfnmhmaaFlRes
import Derived.Test.YtepghohkfnmhmaaVm6
namespace Go.Proofs.Ytepghohkfnmhmaa
open Go.Vm
set_option linter.unusedVariables false
set_option linter.unusedSimpArgs false

theorem spec_l1In_t (n lo hi : Int) : spec_l1In_T n lo hi = some (decide (lo ≤ n) && decide (n ≤ hi)) := by
  refine spec_l1In_of 0 n lo hi ?_
  unfold spec_l1In_R
  by_cases h : lo ≤ n <;> simp [br, h]

theorem impl_in_t (n lo hi : Int) : impl_in_T n lo hi = some (decide (lo ≤ n) && decide (n ≤ hi)) := by
  refine impl_in_of 0 n lo hi ?_
  unfold impl_in_R
  by_cases h : lo ≤ n <;> simp [br, h]

theorem impl_isAtom_t (n : Int) : impl_isAtom_T n = some (isAtom n) := by
  refine impl_isAtom_of 0 n ?_
  unfold impl_isAtom_R
  rw [impl_in_t]
  rfl

theorem impl_isTime_t (n : Int) : impl_isTime_T n = some (isTime n) := by
  refine impl_isTime_of 0 n ?_
  unfold impl_isTime_R
  rw [impl_in_t]
  rfl

/-! ### Size -/

/-! ### Same -/

/-! ### Order -/

end Go.Proofs.Ytepghohkfnmhmaa
