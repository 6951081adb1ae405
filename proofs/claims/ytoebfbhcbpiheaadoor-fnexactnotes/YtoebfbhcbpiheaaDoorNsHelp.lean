/-
  What the laws' own helpers come to: sizes, copies, comparisons.
-/
import Derived.Test.YtoebfbhcbpiheaaDoorNsRes
import Derived.Test.YtoebfbhcbpiheaaDoorVm6
namespace Go.Proofs.YtoebfbhcbpiheaaDoor
open Go.Vm
set_option linter.unusedVariables false
set_option linter.unusedSimpArgs false

end Go.Proofs.YtoebfbhcbpiheaaDoor
