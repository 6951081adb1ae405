/-
  What the laws' own helpers come to: whole worlds.
-/
import Derived.Test.YtepghohkfnmhmaaEWoHelp
import Derived.Test.YtepghohkfnmhmaaVmWorld
namespace Go.Proofs.Ytepghohkfnmhmaa
open Go.Vm
set_option linter.unusedVariables false
set_option linter.unusedSimpArgs false

theorem szWorld_rn (w : WorldD) (hb : w.Bd) (left : Int) (h0 : 0 ≤ left) (h1 : left ≤ 1048576) : RN 18 [.ag (WorldD.cells w), .int left] [] = some (.int (vLeft w.cost left), [], []) := by
  have hmax : maxLen = 9223372036854775807 := rfl
  refine rn_of_resid (n := 0) ?_
  rw [laws_szWorld_res]
  unfold WorldD.cost
  have e1 := pres_f (szTermS_rn w.known false (by have := hb.known; omega) hb.knownB left h0 h1)
  simp only [e1, qb, unC, fInt]
  by_cases g1 : (Term.costs w.known : Int) ≤ left
  · rw [vLeft_yes g1, vLeft_add g1]
    generalize hl1 : left - (Term.costs w.known : Int) = left1
    have n1 : 0 ≤ left1 := by omega
    have m1 : left1 ≤ 1048576 := by omega
    rw [show decide (left1 < 0) = false by simp; omega]
    have e2 := pres_f (szPolicyS_rn w.cache false left1 n1 m1 hb.cache (fun x hx l g0 g1 => szPolicy_rn x (hb.cacheB x hx) l g0 g1))
    simp only [e2, br, ← show lsum Policy.cost w.cache = w.cache.length + sumC Policy.cost w.cache from rfl]
    by_cases g2 : (lsum Policy.cost w.cache : Int) ≤ left1
    · rw [vLeft_yes g2, vLeft_add g2]
      generalize hl2 : left1 - (lsum Policy.cost w.cache : Int) = left2
      have n2 : 0 ≤ left2 := by omega
      have m2 : left2 ≤ 1048576 := by omega
      rw [show decide (left2 < 0) = false by simp; omega]
      have e3 := pres_f (szHostS_rn w.hosts false left2 n2 m2 hb.hosts (fun x hx l g0 g1 => szHost_rn x (hb.hostsB x hx) l g0 g1))
      simp only [e3, ← show lsum Host.cost w.hosts = w.hosts.length + sumC Host.cost w.hosts from rfl]
      by_cases g3 : (lsum Host.cost w.hosts : Int) ≤ left2
      · rw [vLeft_yes g3, vLeft_add g3]
        generalize hl3 : left2 - (lsum Host.cost w.hosts : Int) = left3
        have n3 : 0 ≤ left3 := by omega
        have m3 : left3 ≤ 1048576 := by omega
        rw [show decide (left3 < 0) = false by simp; omega]
        have e4 := pres_f (szLetterS_rn w.letters false left3 n3 m3 hb.letters (fun x hx l g0 g1 => szLetter_rn x (hb.lettersB x hx) l g0 g1))
        simp only [e4, ← show lsum Letter.cost w.letters = w.letters.length + sumC Letter.cost w.letters from rfl]
        by_cases g4 : (lsum Letter.cost w.letters : Int) ≤ left3
        · rw [vLeft_yes g4, vLeft_add g4]
          generalize hl4 : left3 - (lsum Letter.cost w.letters : Int) = left4
          have n4 : 0 ≤ left4 := by omega
          have m4 : left4 ≤ 1048576 := by omega
          have hbk := hb.book
          rw [show decide (left4 < 0) = false by simp; omega, wrap_id (by omega) (by omega)]
          by_cases g5 : (w.book.size : Int) ≤ left4
          · rw [vLeft_add g5]
            generalize hl5 : left4 - (w.book.size : Int) = left5
            have n5 : 0 ≤ left5 := by omega
            have m5 : left5 ≤ 1048576 := by omega
            rw [show decide (left5 < 0) = false by simp; omega]
            have e6 := pres_f (szCallS_rn w.calls false left5 n5 m5 hb.calls (fun x hx l g0 g1 => szCall_rn x (hb.callsB x hx).1 (hb.callsB x hx).2 l g0 g1))
            simp only [e6, ← show lsum CallD.cost w.calls = w.calls.length + sumC CallD.cost w.calls from rfl]
            by_cases g6 : (lsum CallD.cost w.calls : Int) ≤ left5
            · rw [vLeft_yes g6, vLeft_add g6]
              generalize hl6 : left5 - (lsum CallD.cost w.calls : Int) = left6
              have n6 : 0 ≤ left6 := by omega
              have m6 : left6 ≤ 1048576 := by omega
              rw [show decide (left6 < 0) = false by simp; omega]
              have e7 := pres_f (szTalkS_rn w.talks false left6 n6 m6 hb.talks (fun x hx l g0 g1 => szTalk_rn x (hb.talksB x hx) l g0 g1))
              simp only [e7, ← show lsum Talk.cost w.talks = w.talks.length + sumC Talk.cost w.talks from rfl]
              by_cases g7 : (lsum Talk.cost w.talks : Int) ≤ left6
              · rw [vLeft_yes g7, vLeft_add g7]
                generalize hl7 : left6 - (lsum Talk.cost w.talks : Int) = left7
                have n7 : 0 ≤ left7 := by omega
                have m7 : left7 ≤ 1048576 := by omega
                rw [show decide (left7 < 0) = false by simp; omega]
                have e8 := pres_f (szIntS_rn w.told false left7 n7 m7 hb.told)
                simp only [e8]
                by_cases g8 : (w.told.length : Int) ≤ left7
                · rw [vLeft_yes g8, show decide (left7 - (w.told.length : Int) < 0) = false by simp; omega]
                · rw [vLeft_not g8]; rfl
              · rw [vLeft_not g7, vLeft_no g7]; rfl
            · rw [vLeft_not g6, vLeft_no g6]; rfl
          · rw [show decide (left4 - (w.book.size : Int) < 0) = true by simp; omega, vLeft_no g5]
        · rw [vLeft_not g4, vLeft_no g4]; rfl
      · rw [vLeft_not g3, vLeft_no g3]; rfl
    · rw [vLeft_not g2, vLeft_no g2]; rfl
  · rw [vLeft_not g1, vLeft_no g1]; rfl

theorem world_small {w : WorldD} {m : Nat} (h : w.cost ≤ m) :
    Term.costs w.known ≤ m ∧ w.cache.length ≤ m ∧ (∀ x ∈ w.cache, x.cost ≤ m) ∧ w.hosts.length ≤ m ∧ w.letters.length ≤ m ∧ w.calls.length ≤ m ∧ (∀ x ∈ w.calls, x.cost ≤ m) ∧ w.talks.length ≤ m ∧ (∀ x ∈ w.talks, x.cost ≤ m) ∧ w.told.length ≤ m := by
  unfold WorldD.cost lsum at h
  refine ⟨by omega, by omega, fun x hx => ?_, by omega, by omega, by omega, fun x hx => ?_, by omega, fun x hx => ?_, by omega⟩
  · have := sumC_mem Policy.cost hx; omega
  · have := sumC_mem CallD.cost hx; omega
  · have := sumC_mem Talk.cost hx; omega

theorem toWorld_rn (w : WorldD) (h : w.cost ≤ 1000000000) : RN 20 [.ag (WorldD.cells w)] [] = some (.ag (WorldD.cells w), [], []) := by
  obtain ⟨h1, h2, h3, h4, h5, h6, h7, h8, h9, h10⟩ := world_small h
  refine rn_of_resid (n := 0) ?_
  have e1 := pres_row (toTermS_rn w.known false h1)
  have e2 := pres_row (toPolicyS_rn w.cache false h2 (fun x hx => toPolicy_rn x (by have := h3 x hx; unfold Policy.cost at this; omega)))
  have e3 := pres_row (toHostS_rn w.hosts false h4 (fun x hx => toHost_rn x))
  have e4 := pres_row (toLetterS_rn w.letters false h5 (fun x hx => toLetter_rn x))
  have e5 := pres_row (toCallS_rn w.calls false h6 (fun x hx => toCall_rn x (by have := h7 x hx; unfold CallD.cost Client.cost at this; omega)))
  have e6 := pres_row (toTalkS_rn w.talks false h8 (fun x hx => toTalk_rn x (by have := h9 x hx; unfold Talk.cost Server.cost at this; omega) (by have := h9 x hx; unfold Talk.cost Server.cost at this; omega) (by have := h9 x hx; unfold Talk.cost Server.cost at this; omega)))
  have e7 := pres_row (toIntS_rn w.told false h10)
  rw [laws_toWorld_res]
  simp only [e1, e2, e3, e4, e5, e6, e7, qb, unC, fSl]
  rfl

theorem eqWorld_rn (a b : WorldD) (h : a.cost ≤ 1000000000) : RN 22 [.ag (WorldD.cells a), .ag (WorldD.cells b)] [] = some (.bool (decide (a = b)), [], []) := by
  obtain ⟨h1, h2, h3, h4, h5, h6, h7, h8, h9, h10⟩ := world_small h
  refine rn_of_resid (n := 0) ?_
  have e1 := pres_f (eqTermS_rn a.known b.known false false (by omega))
  have e2 := pres_f (eqPolicyS_rn a.cache b.cache false false (by omega) (fun x hx y => eqPolicy_rn x y (by have := h3 x hx; unfold Policy.cost at this; omega)))
  have e3 := pres_f (eqHostS_rn a.hosts b.hosts false false (by omega) (fun x hx y => eqHost_rn x y))
  have e4 := pres_f (eqLetterS_rn a.letters b.letters false false (by omega) (fun x hx y => eqLetter_rn x y))
  have e5 := pres_f (eqCallS_rn a.calls b.calls false false (by omega) (fun x hx y => eqCall_rn x y (by have := h7 x hx; unfold CallD.cost Client.cost at this; omega)))
  have e6 := pres_f (eqTalkS_rn a.talks b.talks false false (by omega) (fun x hx y => eqTalk_rn x y (by have := h9 x hx; unfold Talk.cost Server.cost at this; omega) (by have := h9 x hx; unfold Talk.cost Server.cost at this; omega) (by have := h9 x hx; unfold Talk.cost Server.cost at this; omega)))
  have e7 := pres_f (eqIntS_rn a.told b.told false false (by omega))
  rw [laws_eqWorld_res]
  simp only [e1, e2, e3, e4, e5, e6, e7, qb, unC, fBool, br_if, beq_bytes]
  obtain ⟨a1, a2, a3, a4, a5, a6, a7, a8, a9, a10, a11⟩ := a
  obtain ⟨b1, b2, b3, b4, b5, b6, b7, b8, b9, b10, b11⟩ := b
  simp only [WorldD.mk.injEq]
  by_cases c1 : a1 = b1
  · by_cases c2 : a2 = b2
    · by_cases c3 : a3 = b3
      · by_cases c4 : a4 = b4
        · by_cases c5 : a5 = b5
          · by_cases c6 : a6 = b6
            · by_cases c7 : a7 = b7
              · by_cases c8 : a8 = b8
                · by_cases c9 : a9 = b9
                  · by_cases c10 : a10 = b10
                    · by_cases c11 : a11 = b11
                      · simp [c1, c2, c3, c4, c5, c6, c7, c8, c9, c10, c11]
                      · simp [c1, c2, c3, c4, c5, c6, c7, c8, c9, c10, c11]
                    · simp [c1, c2, c3, c4, c5, c6, c7, c8, c9, c10]
                  · simp [c1, c2, c3, c4, c5, c6, c7, c8, c9]
                · simp [c1, c2, c3, c4, c5, c6, c7, c8]
              · simp [c1, c2, c3, c4, c5, c6, c7]
            · simp [c1, c2, c3, c4, c5, c6]
          · simp [c1, c2, c3, c4, c5]
        · simp [c1, c2, c3, c4]
      · simp [c1, c2, c3]
    · simp [c1, c2]
  · simp [c1]

end Go.Proofs.Ytepghohkfnmhmaa
