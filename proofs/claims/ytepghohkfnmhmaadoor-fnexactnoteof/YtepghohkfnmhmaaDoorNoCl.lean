/-
  Clients and servers that are right; new clients.
-/
import Derived.Test.YtepghohkfnmhmaaDoorNoTk
import Derived.Test.YtepghohkfnmhmaaDoorNoHo
import Derived.Test.YtepghohkfnmhmaaDoorVm6
namespace Go.Proofs.YtepghohkfnmhmaaDoor
open Go.Vm
set_option linter.unusedVariables false
set_option linter.unusedSimpArgs false

end Go.Proofs.YtepghohkfnmhmaaDoor
