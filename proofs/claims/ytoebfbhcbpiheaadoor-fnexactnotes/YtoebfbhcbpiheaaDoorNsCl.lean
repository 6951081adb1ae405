/-
  Clients and servers that are right; new clients.
-/
import Derived.Test.YtoebfbhcbpiheaaDoorNsTk
import Derived.Test.YtoebfbhcbpiheaaDoorNsHo
import Derived.Test.YtoebfbhcbpiheaaDoorVm6
namespace Go.Proofs.YtoebfbhcbpiheaaDoor
open Go.Vm
set_option linter.unusedVariables false
set_option linter.unusedSimpArgs false

end Go.Proofs.YtoebfbhcbpiheaaDoor
