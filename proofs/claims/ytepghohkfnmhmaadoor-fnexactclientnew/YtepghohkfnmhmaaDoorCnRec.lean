/-
  What the laws' own helpers come to: structs and lists of them.
-/
import Derived.Test.YtepghohkfnmhmaaDoorCnHelp
import Derived.Test.YtepghohkfnmhmaaDoorVm6
namespace Go.Proofs.YtepghohkfnmhmaaDoor
open Go.Vm
set_option linter.unusedVariables false
set_option linter.unusedSimpArgs false










theorem eqClient_t (a b : Client) (h : Client.cost a < 9223372036854775807) : laws_eqClient_T a b = some (decide (a = b)) := by
  have hcost : Client.cost a = a.host.size + (a.share.cost) := by unfold Client.cost; first | rfl | omega
  refine laws_eqClient_of 0 a b ?_
  unfold laws_eqClient_R
  have e0 := eqTerm_t a.share (by omega) b.share
  simp only [e0, qb_s, br_if, not_beq_bytes, bne_int]
  clear e0 hcost h
  obtain ⟨a0, a1, a2, a3, a4, a5, a6, a7, a8, a9⟩ := a
  obtain ⟨b0, b1, b2, b3, b4, b5, b6, b7, b8, b9⟩ := b
  simp only [Client.mk.injEq]
  by_cases c0 : a0 = b0
  case neg => simp [c0]
  by_cases c1 : a1 = b1
  case neg => simp [c0, c1]
  by_cases c2 : a2 = b2
  case neg => simp [c0, c1, c2]
  by_cases c3 : a3 = b3
  case neg => simp [c0, c1, c2, c3]
  by_cases c4 : a4 = b4
  case neg => simp [c0, c1, c2, c3, c4]
  by_cases c5 : a5 = b5
  case neg => simp [c0, c1, c2, c3, c4, c5]
  by_cases c6 : a6 = b6
  case neg => simp [c0, c1, c2, c3, c4, c5, c6]
  by_cases c7 : a7 = b7
  case neg => simp [c0, c1, c2, c3, c4, c5, c6, c7]
  by_cases c8 : a8 = b8
  case neg => simp [c0, c1, c2, c3, c4, c5, c6, c7, c8]
  by_cases c9 : a9 = b9
  case neg => simp [c0, c1, c2, c3, c4, c5, c6, c7, c8, c9]
  simp [c0, c1, c2, c3, c4, c5, c6, c7, c8, c9]

























end Go.Proofs.YtepghohkfnmhmaaDoor
