/-
  What the laws' own helpers come to: servers.
-/
import Derived.Test.YtepghohkfnmhmaaDoorFHelp
import Derived.Test.YtepghohkfnmhmaaDoorFListI
namespace Go.Proofs.YtepghohkfnmhmaaDoor
open Go.Vm
set_option linter.unusedVariables false
set_option linter.unusedSimpArgs false

theorem toServer_rn (s : Server) (h1 : s.cert.cost ≤ 1000000000) (h2 : s.share.cost ≤ 1000000000) (h3 : s.got.length ≤ 1000000000) : RN 19 [.ag (Server.cells s)] [] = some (.ag (Server.cells s), [], []) := by
  refine rn_of_resid (n := 0) ?_
  have e1 := pres_ag (toTerm_rn s.cert h1)
  have e2 := pres_ag (toTerm_rn s.share h2)
  have e3 := pres_row (toIntS_rn s.got false h3)
  simp only [Term.cells, V.ag, List.map_cons, List.map_nil] at e1 e2
  rw [laws_toServer_res, e1]
  simp only [qb, asEl, lmapM, frzC, Option.bind_some, ofCells, e2, e3, unC, fSl]
  rfl

theorem eqServer_rn (a b : Server) (h1 : a.cert.cost < 9223372036854775807) (h2 : a.share.cost < 9223372036854775807) (h3 : a.got.length < 9223372036854775807) : RN 21 [.ag (Server.cells a), .ag (Server.cells b)] [] = some (.bool (decide (a = b)), [], []) := by
  refine rn_of_resid (n := 0) ?_
  have e1 := pres_f (eqTerm_rn a.cert h1 b.cert)
  have e2 := pres_f (eqTerm_rn a.share h2 b.share)
  have e3 := pres_f (eqIntS_rn a.got b.got false false h3)
  simp only [Term.cells, V.ag, List.map_cons, List.map_nil] at e1 e2
  rw [laws_eqServer_res]
  simp only [e1, e2, e3, qb, unC, fBool, br_if, beq_bytes]
  obtain ⟨a1, a2, a3, a4, a5, a6, a7, a8, a9, a10⟩ := a
  obtain ⟨b1, b2, b3, b4, b5, b6, b7, b8, b9, b10⟩ := b
  simp only [Server.mk.injEq]
  by_cases c1 : a1 = b1
  · by_cases c2 : a2 = b2
    · by_cases c3 : a3 = b3
      · by_cases c4 : a4 = b4
        · by_cases c5 : a5 = b5
          · by_cases c6 : a6 = b6
            · by_cases c7 : a7 = b7
              · by_cases c8 : a8 = b8
                · by_cases c9 : a9 = b9
                  · by_cases c10 : a10 = b10
                    · simp [c1, c2, c3, c4, c5, c6, c7, c8, c9, c10]
                    · simp [c1, c2, c3, c4, c5, c6, c7, c8, c9, c10]
                  · simp [c1, c2, c3, c4, c5, c6, c7, c8, c9]
                · simp [c1, c2, c3, c4, c5, c6, c7, c8]
              · simp [c1, c2, c3, c4, c5, c6, c7]
            · simp [c1, c2, c3, c4, c5, c6]
          · simp [c1, c2, c3, c4, c5]
        · simp [c1, c2, c3, c4]
      · simp [c1, c2, c3]
    · simp [c1, c2]
  · simp [c1]

theorem szServer_rn (s : Server) (hb : s.Bd) (left : Int) (h0 : 0 ≤ left) (h1 : left ≤ 1048576) : RN 17 [.ag (Server.cells s), .int left] [] = some (.int (vLeft s.cost left), [], []) := by
  obtain ⟨b1, b2, b3, b4⟩ := hb
  refine rn_of_resid (n := 0) ?_
  rw [laws_szServer_res, wrap_id (by omega) (by omega)]
  unfold Server.cost
  by_cases g1 : (s.host.size : Int) ≤ left
  · rw [show decide (left - (s.host.size : Int) < 0) = false by simp; omega]
    have e1 := pres_f (szTerm_rn s.cert b2 (left - s.host.size) (by omega) (by omega))
    simp only [Term.cells, V.ag, List.map_cons, List.map_nil] at e1
    simp only [br, e1, qb, unC, fInt]
    rw [show s.host.size + s.cert.cost + s.share.cost + s.got.length = s.host.size + (s.cert.cost + (s.share.cost + s.got.length)) by omega, vLeft_add g1]
    by_cases g2 : (s.cert.cost : Int) ≤ left - s.host.size
    · rw [vLeft_yes g2, vLeft_add g2, show decide (left - (s.host.size : Int) - (s.cert.cost : Int) < 0) = false by simp; omega]
      have e2 := pres_f (szTerm_rn s.share b3 (left - s.host.size - s.cert.cost) (by omega) (by omega))
      simp only [Term.cells, V.ag, List.map_cons, List.map_nil] at e2
      simp only [e2]
      by_cases g3 : (s.share.cost : Int) ≤ left - s.host.size - s.cert.cost
      · rw [vLeft_yes g3, vLeft_add g3, show decide (left - (s.host.size : Int) - (s.cert.cost : Int) - (s.share.cost : Int) < 0) = false by simp; omega]
        have e3 := pres_f (szIntS_rn s.got false (left - s.host.size - s.cert.cost - s.share.cost) (by omega) (by omega) b4)
        simp only [e3]
        by_cases g4 : (s.got.length : Int) ≤ left - s.host.size - s.cert.cost - s.share.cost
        · rw [vLeft_yes g4, show decide (left - (s.host.size : Int) - (s.cert.cost : Int) - (s.share.cost : Int) - (s.got.length : Int) < 0) = false by simp; omega]
        · rw [vLeft_not g4]; rfl
      · rw [vLeft_not g3, vLeft_no g3]; rfl
    · rw [vLeft_not g2, vLeft_no g2]; rfl
  · rw [show decide (left - (s.host.size : Int) < 0) = true by simp; omega]
    rw [show s.host.size + s.cert.cost + s.share.cost + s.got.length = s.host.size + (s.cert.cost + (s.share.cost + s.got.length)) by omega, vLeft_no g1]
    rfl

end Go.Proofs.YtepghohkfnmhmaaDoor
