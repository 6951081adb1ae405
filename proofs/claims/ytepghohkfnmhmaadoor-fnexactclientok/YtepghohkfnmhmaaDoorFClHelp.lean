/-
  What the laws' own helpers come to: clients.
-/
import Derived.Test.YtepghohkfnmhmaaDoorFHelp
namespace Go.Proofs.YtepghohkfnmhmaaDoor
open Go.Vm
set_option linter.unusedVariables false
set_option linter.unusedSimpArgs false

theorem toClient_rn (c : Client) (h : c.share.cost ≤ 1000000000) : RN 10 [.ag (Client.cells c)] [] = some (.ag (Client.cells c), [], []) := by
  refine rn_of_resid (n := 0) ?_
  have h1 := pres_ag (toTerm_rn c.share h)
  simp only [Term.cells, V.ag, List.map_cons, List.map_nil] at h1
  rw [laws_toClient_res, h1]
  rfl

theorem eqClient_rn (a b : Client) (h : a.share.cost < 9223372036854775807) : RN 12 [.ag (Client.cells a), .ag (Client.cells b)] [] = some (.bool (decide (a = b)), [], []) := by
  refine rn_of_resid (n := 0) ?_
  have h1 := pres_f (eqTerm_rn a.share h b.share)
  simp only [Term.cells, V.ag, List.map_cons, List.map_nil] at h1
  rw [laws_eqClient_res]
  simp only [h1, qb, unC, fBool, br_if, beq_bytes]
  obtain ⟨a1, a2, a3, a4, a5, a6, a7, a8, a9, a10⟩ := a
  obtain ⟨b1, b2, b3, b4, b5, b6, b7, b8, b9, b10⟩ := b
  simp only [Client.mk.injEq]
  by_cases c1 : a1 = b1
  · by_cases c2 : a2 = b2
    · by_cases c3 : a3 = b3
      · by_cases c4 : a4 = b4
        · by_cases c5 : a5 = b5
          · by_cases c6 : a6 = b6
            · by_cases c7 : a7 = b7
              · by_cases c8 : a8 = b8
                · by_cases c9 : a9 = b9
                  · by_cases c10 : a10 = b10
                    · simp [c1, c2, c3, c4, c5, c6, c7, c8, c9, c10]
                    · simp [c1, c2, c3, c4, c5, c6, c7, c8, c9, c10]
                  · simp [c1, c2, c3, c4, c5, c6, c7, c8, c9]
                · simp [c1, c2, c3, c4, c5, c6, c7, c8]
              · simp [c1, c2, c3, c4, c5, c6, c7]
            · simp [c1, c2, c3, c4, c5, c6]
          · simp [c1, c2, c3, c4, c5]
        · simp [c1, c2, c3, c4]
      · simp [c1, c2, c3]
    · simp [c1, c2]
  · simp [c1]

theorem szClient_rn (c : Client) (hb : c.share.Bd) (hh : c.host.size ≤ maxLen) (left : Int) (h0 : 0 ≤ left) (h1 : left ≤ 1048576) : RN 8 [.ag (Client.cells c), .int left] [] = some (.int (vLeft c.cost left), [], []) := by
  have hmax : maxLen = 9223372036854775807 := rfl
  refine rn_of_resid (n := 0) ?_
  rw [laws_szClient_res, wrap_id (by omega) (by omega)]
  unfold Client.cost
  by_cases hl : (c.host.size : Int) ≤ left
  · have h1 := pres_f (szTerm_rn c.share hb (left - c.host.size) (by omega) (by omega))
    simp only [Term.cells, V.ag, List.map_cons, List.map_nil] at h1
    rw [show decide (left - (c.host.size : Int) < 0) = false by simp; omega]
    simp only [br, h1, qb, unC, fInt]
    rw [vLeft_add hl]
    by_cases h2 : (c.share.cost : Int) ≤ left - c.host.size
    · rw [vLeft_yes h2, show decide (left - (c.host.size : Int) - c.share.cost < 0) = false by simp; omega]
    · rw [vLeft_not h2]
      rfl
  · rw [show decide (left - (c.host.size : Int) < 0) = true by simp; omega, vLeft_no hl]
    rfl

end Go.Proofs.YtepghohkfnmhmaaDoor
