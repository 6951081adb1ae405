/-
  Letters compared.
-/
import Derived.Test.YtepghohkfnmhmaaERes
import Derived.Test.YtepghohkfnmhmaaVmLib
namespace Go.Proofs.Ytepghohkfnmhmaa
open Go.Vm
set_option linter.unusedVariables false
set_option linter.unusedSimpArgs false

theorem eqLetter_rn (a b : Letter) : RN 74 [.ag (Letter.cells a), .ag (Letter.cells b)] [] = some (.bool (decide (a = b)), [], []) := by
  refine rn_of_resid (n := 0) ?_
  rw [laws_eqLetter_res]
  obtain ⟨d, o, s, t, n⟩ := a
  obtain ⟨d', o', s', t', n'⟩ := b
  simp only [br_if, beq_bytes]
  by_cases h1 : d = d' <;> by_cases h2 : o = o' <;> by_cases h3 : s = s' <;> by_cases h4 : t = t' <;> by_cases h5 : n = n' <;> simp [h1, h2, h3, h4, h5]

end Go.Proofs.Ytepghohkfnmhmaa
