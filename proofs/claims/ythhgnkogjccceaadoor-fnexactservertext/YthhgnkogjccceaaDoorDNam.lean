/-
  Words by number.
-/
import Derived.Test.YthhgnkogjccceaaDoorDRes
import Derived.Test.YthhgnkogjccceaaDoorVmLib
namespace Go.Proofs.YthhgnkogjccceaaDoor
open Go.Vm
set_option linter.unusedVariables false
set_option linter.unusedSimpArgs false

theorem spec_l17Name_rn (n : Int) (t : Bool) (l : List ByteArray) (h : l.length ≤ 1000) : RN 35 [.int n, .sl t .str l] [] = some (.str (nameOf n l), [], []) := by
  refine rn_of_resid (n := 0) ?_
  rw [spec_l17Name_res]
  by_cases h1 : 1 ≤ n
  · by_cases h2 : n ≤ l.length
    · rw [idx_name h1 h2 h, show decide (n < 1) = false by simp; omega, show decide (n > (l.length : Int)) = false by simp; omega]
      rfl
    · rw [show decide (n < 1) = false by simp; omega, show decide (n > (l.length : Int)) = true by simp; omega]
      simp [br, nameOf, h2]
  · rw [show decide (n < 1) = true by simp; omega]
    simp [br, nameOf, h1]

theorem impl_named_rn (n : Int) (t : Bool) (l : List ByteArray) (h : l.length ≤ 1000) : RN 37 [.int n, .sl t .str l] [] = some (.str (nameOf n l), [], []) := by
  refine rn_of_resid (n := 0) ?_
  rw [impl_named_res]
  by_cases h1 : 1 ≤ n
  · by_cases h2 : n ≤ l.length
    · rw [idx_name h1 h2 h, show decide (n ≥ 1) = true by simp; omega, show decide (n ≤ (l.length : Int)) = true by simp; omega]
      rfl
    · rw [show decide (n ≥ 1) = true by simp; omega, show decide (n ≤ (l.length : Int)) = false by simp; omega]
      simp [br, nameOf, h2]
  · rw [show decide (n ≥ 1) = false by simp; omega]
    simp [br, nameOf, h1]

end Go.Proofs.YthhgnkogjccceaaDoor
