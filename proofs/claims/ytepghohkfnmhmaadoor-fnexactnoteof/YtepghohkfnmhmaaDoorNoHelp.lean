/-
  What the laws' own helpers come to: sizes, copies, comparisons.
-/
import Derived.Test.YtepghohkfnmhmaaDoorNoRes
import Derived.Test.YtepghohkfnmhmaaDoorVm6
namespace Go.Proofs.YtepghohkfnmhmaaDoor
open Go.Vm
set_option linter.unusedVariables false
set_option linter.unusedSimpArgs false

end Go.Proofs.YtepghohkfnmhmaaDoor
