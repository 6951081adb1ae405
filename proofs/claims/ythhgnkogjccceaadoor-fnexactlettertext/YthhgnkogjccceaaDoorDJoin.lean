/-
  Joined texts.
-/
import Derived.Test.YthhgnkogjccceaaDoorDRes
import Derived.Test.YthhgnkogjccceaaDoorVmDig
namespace Go.Proofs.YthhgnkogjccceaaDoor
open Go.Vm Go.Proofs
set_option linter.unusedVariables false
set_option linter.unusedSimpArgs false

theorem Join_rn (t : Bool) (l : List ByteArray) (sep : ByteArray) (h0 : l.length ≤ 140737488355328) (h1 : (Lib.join (l.map (·.data.toList)) sep.data.toList).length ≤ 140737488355328) : RN 36 [.sl t .str l, .str sep] [] = some (.str (joinB l sep), [], []) := by
  refine rn_ext (g := extJoin) rfl ?_
  unfold extJoin
  simp only
  rw [if_pos ⟨h0, h1⟩]

end Go.Proofs.YthhgnkogjccceaaDoor
