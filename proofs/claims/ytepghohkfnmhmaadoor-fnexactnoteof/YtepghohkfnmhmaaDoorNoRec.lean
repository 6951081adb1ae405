/-
  What the laws' own helpers come to: structs and lists of them.
-/
import Derived.Test.YtepghohkfnmhmaaDoorNoHelp
import Derived.Test.YtepghohkfnmhmaaDoorVm6
namespace Go.Proofs.YtepghohkfnmhmaaDoor
open Go.Vm
set_option linter.unusedVariables false
set_option linter.unusedSimpArgs false









theorem eqNote_t (a b : Note) (h : Note.cost a < 9223372036854775807) : laws_eqNote_T a b = some (decide (a = b)) := by
  have hcost : Note.cost a = a.domain.size := by unfold Note.cost; first | rfl | omega
  refine laws_eqNote_of 0 a b ?_
  unfold laws_eqNote_R
  simp only [br_if, not_beq_bytes, bne_int]
  clear hcost h
  obtain ⟨a0, a1, a2, a3, a4⟩ := a
  obtain ⟨b0, b1, b2, b3, b4⟩ := b
  simp only [Note.mk.injEq]
  by_cases c0 : a0 = b0
  case neg => simp [c0]
  by_cases c1 : a1 = b1
  case neg => simp [c0, c1]
  by_cases c2 : a2 = b2
  case neg => simp [c0, c1, c2]
  by_cases c3 : a3 = b3
  case neg => simp [c0, c1, c2, c3]
  by_cases c4 : a4 = b4
  case neg => simp [c0, c1, c2, c3, c4]
  simp [c0, c1, c2, c3, c4]


























end Go.Proofs.YtepghohkfnmhmaaDoor
