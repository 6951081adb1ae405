/-
  What the laws' own helpers come to: policies.
-/
import Derived.Test.YtepghohkfnmhmaaEListS
namespace Go.Proofs.Ytepghohkfnmhmaa
open Go.Vm
set_option linter.unusedVariables false
set_option linter.unusedSimpArgs false

theorem toPolicy_rn (p : Policy) (h : p.mx.length ≤ 1000000000) : RN 66 [.ag (Policy.cells p)] [] = some (.ag (Policy.cells p), [], []) := by
  refine rn_of_resid (n := 0) ?_
  rw [laws_toPolicy_res, pres_row (toStringS_rn p.mx false h)]
  rfl

theorem eqPolicy_rn (a b : Policy) (h : a.mx.length < 9223372036854775807) : RN 72 [.ag (Policy.cells a), .ag (Policy.cells b)] [] = some (.bool (decide (a = b)), [], []) := by
  refine rn_of_resid (n := 0) ?_
  rw [laws_eqPolicy_res, pres_f (eqStringS_rn a.mx b.mx false false h)]
  obtain ⟨a1, a2, a3, a4⟩ := a
  obtain ⟨b1, b2, b3, b4⟩ := b
  simp only [qb, unC, fBool, br_if, beq_bytes, Policy.mk.injEq]
  by_cases c1 : a1 = b1 <;> by_cases c2 : a2 = b2 <;> by_cases c3 : a3 = b3 <;> by_cases c4 : a4 = b4 <;> simp [c1, c2, c3, c4]

theorem szPolicy_rn (p : Policy) (hb : p.Bd) (left : Int) (h0 : 0 ≤ left) (h1 : left ≤ 1048576) : RN 60 [.ag (Policy.cells p), .int left] [] = some (.int (vLeft p.cost left), [], []) := by
  obtain ⟨b1, b2, b3⟩ := hb
  refine rn_of_resid (n := 0) ?_
  rw [laws_szPolicy_res, wrap_id (by omega) (by omega)]
  unfold Policy.cost
  by_cases hl : (p.domain.size : Int) ≤ left
  · have h2 := pres_f (szStringS_rn p.mx false (left - p.domain.size) (by omega) (by omega) b2 b3)
    rw [show decide (left - (p.domain.size : Int) < 0) = false by simp; omega]
    simp only [br, h2, qb, unC, fInt]
    unfold vLeft
    by_cases h2 : ((p.mx.length + sumC ByteArray.size p.mx : Nat) : Int) ≤ left - p.domain.size
    · rw [if_pos h2, if_pos (by omega), show decide (left - (p.domain.size : Int) - ((p.mx.length + sumC ByteArray.size p.mx : Nat) : Int) < 0) = false by simp; omega]
      simp only [V.int, Option.some.injEq, Prod.mk.injEq, V.c.injEq, C.f.injEq, F.sc.injEq, Value.int.injEq, true_and, and_true]
      omega
    · rw [if_neg h2, if_neg (by omega)]
      rfl
  · rw [show decide (left - (p.domain.size : Int) < 0) = true by simp; omega]
    simp only [br, vLeft]
    rw [if_neg (by omega)]

end Go.Proofs.Ytepghohkfnmhmaa
