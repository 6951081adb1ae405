/-
  What the laws' own helpers come to: letters.
-/
import Derived.Test.YtepghohkfnmhmaaERes
import Derived.Test.YtepghohkfnmhmaaVmLib
namespace Go.Proofs.Ytepghohkfnmhmaa
open Go.Vm
set_option linter.unusedVariables false
set_option linter.unusedSimpArgs false

theorem toLetter_rn (l : Letter) : RN 68 [.ag (Letter.cells l)] [] = some (.ag (Letter.cells l), [], []) := by
  refine rn_of_resid (n := 0) ?_
  rw [laws_toLetter_res]
  rfl

theorem szLetter_rn (l : Letter) (hs : l.domain.size ≤ 9223372036854775807) (left : Int) (h0 : 0 ≤ left) (h1 : left ≤ 1048576) : RN 62 [.ag (Letter.cells l), .int left] [] = some (.int (vLeft l.cost left), [], []) := by
  refine rn_of_resid (n := 0) ?_
  unfold Letter.cost
  rw [laws_szLetter_res, wrap_id (by omega) (by omega)]
  by_cases h : (l.domain.size : Int) ≤ left
  · rw [vLeft_yes h, show decide (left - (l.domain.size : Int) < 0) = false by simp; omega]
    rfl
  · rw [vLeft_not h, show decide (left - (l.domain.size : Int) < 0) = true by simp; omega]
    rfl

end Go.Proofs.Ytepghohkfnmhmaa
