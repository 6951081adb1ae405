/-
  Terms that are right.
-/
import Derived.Test.YtoebfbhcbpiheaaDoorNsTm
namespace Go.Proofs.YtoebfbhcbpiheaaDoor
open Go.Vm
set_option linter.unusedVariables false
set_option linter.unusedSimpArgs false

theorem kids_two {t : Term} (ha : arity t.op = (t.kids.length : Int)) (h5 : t.op = 5) : ∃ x y, t.kids = [x, y] := by
  rw [h5] at ha
  have h2 : t.kids.length = 2 := by
    have : arity 5 = 2 := rfl
    omega
  match hk : t.kids, h2 with
  | [x, y], _ => exact ⟨x, y, rfl⟩

end Go.Proofs.YtoebfbhcbpiheaaDoor
