/-
  What the laws' own helpers come to: worlds.
-/
import Derived.Test.YtepghohkfnmhmaaEHelp
import Derived.Test.YtepghohkfnmhmaaEListI
import Derived.Test.YtepghohkfnmhmaaEPolHelp
import Derived.Test.YtepghohkfnmhmaaEClHelp
import Derived.Test.YtepghohkfnmhmaaESvHelp
import Derived.Test.YtepghohkfnmhmaaELeHelp
import Derived.Test.YtepghohkfnmhmaaEEqL
namespace Go.Proofs.Ytepghohkfnmhmaa
open Go.Vm
set_option linter.unusedVariables false
set_option linter.unusedSimpArgs false

theorem toHost_rn (h : Host) : RN 67 [.ag (Host.cells h)] [] = some (.ag (Host.cells h), [], []) := by
  refine rn_of_resid (n := 0) ?_
  rw [laws_toHost_res]
  rfl

theorem eqHost_rn (a b : Host) : RN 73 [.ag (Host.cells a), .ag (Host.cells b)] [] = some (.bool (decide (a = b)), [], []) := by
  refine rn_of_resid (n := 0) ?_
  rw [laws_eqHost_res]
  obtain ⟨a1, a2, a3⟩ := a
  obtain ⟨b1, b2, b3⟩ := b
  simp only [br_if, beq_bytes, Host.mk.injEq]
  by_cases c1 : a1 = b1 <;> by_cases c2 : a2 = b2 <;> by_cases c3 : a3 = b3 <;> simp [c1, c2, c3]

theorem szHost_rn (h : Host) (hs : h.name.size ≤ 9223372036854775807) (left : Int) (h0 : 0 ≤ left) (h1 : left ≤ 1048576) : RN 61 [.ag (Host.cells h), .int left] [] = some (.int (vLeft h.cost left), [], []) := by
  refine rn_of_resid (n := 0) ?_
  rw [laws_szHost_res, wrap_id (by omega) (by omega)]
  unfold Host.cost
  by_cases g : (h.name.size : Int) ≤ left
  · rw [vLeft_yes g, show decide (left - (h.name.size : Int) < 0) = false by simp; omega]
    rfl
  · rw [vLeft_not g, show decide (left - (h.name.size : Int) < 0) = true by simp; omega]
    rfl

theorem toCall_rn (c : CallD) (h : c.client.share.cost ≤ 1000000000) : RN 69 [.ag (CallD.cells c)] [] = some (.ag (CallD.cells c), [], []) := by
  refine rn_of_resid (n := 0) ?_
  have h1 := pres_ag (toClient_rn c.client h)
  simp only [Client.cells, V.ag, List.map_cons, List.map_nil] at h1
  rw [laws_toCall_res, h1]
  rfl

theorem eqCall_rn (a b : CallD) (h : a.client.share.cost < 9223372036854775807) : RN 75 [.ag (CallD.cells a), .ag (CallD.cells b)] [] = some (.bool (decide (a = b)), [], []) := by
  refine rn_of_resid (n := 0) ?_
  have h1 := pres_f (eqClient_rn a.client b.client h)
  simp only [Client.cells, V.ag, List.map_cons, List.map_nil] at h1
  rw [laws_eqCall_res]
  simp only [h1, qb, unC, fBool, br_if]
  obtain ⟨a1, a2, a3⟩ := a
  obtain ⟨b1, b2, b3⟩ := b
  simp only [CallD.mk.injEq]
  by_cases c1 : a1 = b1 <;> by_cases c2 : a2 = b2 <;> by_cases c3 : a3 = b3 <;> simp [c1, c2, c3]

theorem szCall_rn (c : CallD) (hb : c.client.share.Bd) (hh : c.client.host.size ≤ maxLen) (left : Int) (h0 : 0 ≤ left) (h1 : left ≤ 1048576) : RN 63 [.ag (CallD.cells c), .int left] [] = some (.int (vLeft c.cost left), [], []) := by
  refine rn_of_resid (n := 0) ?_
  unfold CallD.cost
  have e := pres_f (szClient_rn c.client hb hh left h0 h1)
  simp only [Client.cells, V.ag, List.map_cons, List.map_nil] at e
  rw [laws_szCall_res, e]
  simp only [qb, unC, fInt]
  by_cases g : (c.client.cost : Int) ≤ left
  · rw [vLeft_yes g, show decide (left - (c.client.cost : Int) < 0) = false by simp; omega]
    rfl
  · rw [vLeft_not g]
    rfl

theorem toTalk_rn (c : Talk) (h1 : c.server.cert.cost ≤ 1000000000) (h2 : c.server.share.cost ≤ 1000000000) (h3 : c.server.got.length ≤ 1000000000) : RN 70 [.ag (Talk.cells c)] [] = some (.ag (Talk.cells c), [], []) := by
  refine rn_of_resid (n := 0) ?_
  have e := pres_ag (toServer_rn c.server h1 h2 h3)
  simp only [Server.cells, V.ag, List.map_cons, List.map_nil] at e
  rw [laws_toTalk_res, e]
  rfl

theorem eqTalk_rn (a b : Talk) (h1 : a.server.cert.cost < 9223372036854775807) (h2 : a.server.share.cost < 9223372036854775807) (h3 : a.server.got.length < 9223372036854775807) : RN 76 [.ag (Talk.cells a), .ag (Talk.cells b)] [] = some (.bool (decide (a = b)), [], []) := by
  refine rn_of_resid (n := 0) ?_
  have e := pres_f (eqServer_rn a.server b.server h1 h2 h3)
  simp only [Server.cells, V.ag, List.map_cons, List.map_nil] at e
  rw [laws_eqTalk_res]
  simp only [e, qb, unC, fBool, br_if]
  obtain ⟨a1, a2⟩ := a
  obtain ⟨b1, b2⟩ := b
  simp only [Talk.mk.injEq]
  by_cases c1 : a1 = b1 <;> by_cases c2 : a2 = b2 <;> simp [c1, c2]

theorem szTalk_rn (c : Talk) (hb : c.server.Bd) (left : Int) (h0 : 0 ≤ left) (h1 : left ≤ 1048576) : RN 64 [.ag (Talk.cells c), .int left] [] = some (.int (vLeft c.cost left), [], []) := by
  refine rn_of_resid (n := 0) ?_
  unfold Talk.cost
  have e := pres_f (szServer_rn c.server hb left h0 h1)
  simp only [Server.cells, V.ag, List.map_cons, List.map_nil] at e
  rw [laws_szTalk_res, e]
  simp only [qb, unC, fInt]
  by_cases g : (c.server.cost : Int) ≤ left
  · rw [vLeft_yes g, show decide (left - (c.server.cost : Int) < 0) = false by simp; omega]
    rfl
  · rw [vLeft_not g]
    rfl

theorem eqPolicyS_rn (a b : List Policy) (t0 t1 : Bool) (ha : a.length < 9223372036854775807) (ih : ∀ x ∈ a, ∀ y, RN 72 [.ag (Policy.cells x), .ag (Policy.cells y)] [] = some (.bool (decide (x = y)), [], [])) :
    RN 51 [.sl t0 .policy a, .sl t1 .policy b] [] = some (.bool (decide (a = b)), [], []) := by
  refine rn_of_resid (n := a.length + 1) ?_
  rw [laws_eqPolicyS_res]
  by_cases hl : a.length = b.length
  · rw [show ((a.length : Int) != (b.length : Int)) = false by simp [hl]]
    simp only [br]
    obtain ⟨e, he, hloop⟩ := lp_eq (P := Try.prog) (cfg := cfg) (T := RN) (n := a.length + 1) (d := 5) (f := 51) (r := 4) (na := 0) a b hl
      (fun i => ⟨frOf [(0, .sl t0 .policy a), (1, .sl t1 .policy b), (4, .bool false), (5, .int i)], hpIds []⟩)
      (.ext 0, ⟨frOf [(4, .bool false)], hpIds []⟩) (.ret, ⟨frOf [(4, .bool false)], hpIds []⟩)
      (by rw [laws_eqPolicyS_round4, lt_self]; rfl) rfl rfl
      (fun i x y hx hy hi => by
        have h := pres_f (ih x (List.mem_of_getElem? hx) y)
        simp only [Policy.cells, V.ag, List.map_cons, List.map_nil] at h
        rw [laws_eqPolicyS_round4, lt_t hi, idx_nat hx, idx_nat hy]
        simp only [br, qb, h, unC, fBool]
        rw [wrap_succ (by omega)]
        exact ⟨fun he => by simp only [he, decide_true, Bool.not_true], fun he => by simp only [he, decide_false, Bool.not_false]⟩)
      (a.length + 1) (by omega)
    refine (qb_run hloop).trans ?_
    rw [← he]
    cases e <;> rfl
  · rw [show ((a.length : Int) != (b.length : Int)) = true by simp; omega]
    have : ¬ a = b := fun e => hl (by rw [e])
    simp [br, this]

theorem toPolicyS_rn (a : List Policy) (t0 : Bool) (ha : a.length ≤ 1000000000) (ih : ∀ x ∈ a, RN 66 [.ag (Policy.cells x)] [] = some (.ag (Policy.cells x), [], [])) :
    RN 42 [.sl t0 .policy a] [] = some (.c (.row (.ret 0 0) .policy), [], [.row true .policy a]) := by
  refine rn_of_resid (n := a.length + 1) ?_
  rw [laws_toPolicyS_res]
  rw [show (decide ((a.length : Int) = (a.length : Int)) && decide (0 ≤ (a.length : Int)) && ((a.length : Int)).toNat.ble appMax) = true by simp [appMax]; omega]
  simp only [br]
  rw [show ((a.length : Int)).toNat = a.length by omega]
  have hloop := lp_copy (P := Try.prog) (cfg := cfg) (T := RN) (n := a.length + 1) (d := 5) (f := 42) (r := 3) (na := 0) a (zeroEl .policy)
    (fun i l => ⟨frOf [(0, .sl t0 .policy a), (3, .c (.row (.own 3) .policy)), (4, .int i)], hpIds [(.own 3, .row true .policy l)]⟩)
    (fun l => ⟨frOf [(3, .c (.row (.own 3) .policy))], hpIds [(.own 3, .row true .policy l)]⟩)
    (fun _ _ => by rw [laws_toPolicyS_round3, lt_self]; rfl)
    (fun i x l hx hi hinv => by
      have h := pres_ag (ih x (List.mem_of_getElem? hx))
      simp only [Policy.cells, V.ag, List.map_cons, List.map_nil] at h
      obtain ⟨y, hy⟩ : ∃ y, l[i]? = some y := ⟨l[i]'(by omega), by simp⟩
      rw [laws_toPolicyS_round3, lt_t hi, idx_nat hx]
      simp only [br, qb, h, asEl, lmapM, frzC, Option.bind_some, ofCells, idx_nat hy]
      rw [show ((i : Int)).toNat = i by omega, hy]
      simp only
      rw [wrap_succ (by omega)]
      all_goals rfl)
    (a.length + 1) (by omega)
  refine (qb_run hloop).trans ?_
  rfl

theorem szPolicyS_rn (a : List Policy) (t0 : Bool) (left : Int) (h0 : 0 ≤ left) (h1 : left ≤ 1048576) (ha : a.length ≤ 9223372036854775807) (ih : ∀ x ∈ a, ∀ left : Int, 0 ≤ left → left ≤ 1048576 → RN 60 [.ag (Policy.cells x), .int left] [] = some (.int (vLeft (Policy.cost x) left), [], [])) :
    RN 35 [.sl t0 .policy a, .int left] [] = some (.int (vLeft (a.length + sumC (Policy.cost) a) left), [], []) := by
  refine rn_of_resid (n := a.length + 1) ?_
  rw [laws_szPolicyS_res]
  rw [wrap_id (by omega) (by omega)]
  by_cases hl : (a.length : Int) ≤ left
  · rw [show decide (left - (a.length : Int) < 0) = false by simp; omega]
    simp only [br]
    have hloop := lp_sz (P := Try.prog) (cfg := cfg) (T := RN) (n := a.length + 1) (d := 5) (f := 35) (r := 5) (na := 0) a (Policy.cost)
      (fun i left => ⟨frOf [(0, .sl t0 .policy a), (1, .int left), (4, .int 0), (5, .int i)], hpIds []⟩)
      (fun left => ⟨frOf [(1, .int left), (4, .int 0)], hpIds []⟩) (fun m => ⟨frOf [(1, .int m), (4, .int (-1))], hpIds []⟩)
      (fun _ _ _ => by rw [laws_szPolicyS_round5, lt_self]; rfl)
      (fun i x left hx hi h0 h1 => by
        have h := pres_f (ih x (List.mem_of_getElem? hx) left h0 h1)
        simp only [Policy.cells, V.ag, List.map_cons, List.map_nil] at h
        rw [laws_szPolicyS_round5, lt_t hi, idx_nat hx]
        simp only [br, qb, h, unC, fInt]
        refine ⟨fun he => ?_, fun he => ⟨-1, ?_⟩⟩
        · rw [show vLeft (Policy.cost x) left = left - (Policy.cost x : Nat) by unfold vLeft; rw [if_pos he], show decide (left - ((Policy.cost x : Nat) : Int) < 0) = false by simp; omega]
          simp only
          rw [wrap_succ (by omega)]
        · rw [show vLeft (Policy.cost x) left = -1 by unfold vLeft; rw [if_neg he]]
          rfl)
      (left - a.length) (a.length + 1) (by omega) (by omega) (by omega)
    by_cases hc : ((sumC (Policy.cost) a : Nat) : Int) ≤ left - a.length
    · refine (qb_run (hloop.1 hc)).trans ?_
      rw [show vLeft (a.length + sumC (Policy.cost) a) left = left - a.length - sumC (Policy.cost) a by unfold vLeft; rw [if_pos (by omega)]; omega]
      rfl
    · obtain ⟨m, hm⟩ := hloop.2 hc
      refine (qb_run hm).trans ?_
      rw [show vLeft (a.length + sumC (Policy.cost) a) left = -1 by unfold vLeft; rw [if_neg (by omega)]]
      rfl
  · rw [show decide (left - (a.length : Int) < 0) = true by simp; omega]
    simp only [br, vLeft]
    rw [if_neg (by omega)]

theorem eqHostS_rn (a b : List Host) (t0 t1 : Bool) (ha : a.length < 9223372036854775807) (ih : ∀ x ∈ a, ∀ y, RN 73 [.ag (Host.cells x), .ag (Host.cells y)] [] = some (.bool (decide (x = y)), [], [])) :
    RN 52 [.sl t0 .host a, .sl t1 .host b] [] = some (.bool (decide (a = b)), [], []) := by
  refine rn_of_resid (n := a.length + 1) ?_
  rw [laws_eqHostS_res]
  by_cases hl : a.length = b.length
  · rw [show ((a.length : Int) != (b.length : Int)) = false by simp [hl]]
    simp only [br]
    obtain ⟨e, he, hloop⟩ := lp_eq (P := Try.prog) (cfg := cfg) (T := RN) (n := a.length + 1) (d := 5) (f := 52) (r := 4) (na := 0) a b hl
      (fun i => ⟨frOf [(0, .sl t0 .host a), (1, .sl t1 .host b), (4, .bool false), (5, .int i)], hpIds []⟩)
      (.ext 0, ⟨frOf [(4, .bool false)], hpIds []⟩) (.ret, ⟨frOf [(4, .bool false)], hpIds []⟩)
      (by rw [laws_eqHostS_round4, lt_self]; rfl) rfl rfl
      (fun i x y hx hy hi => by
        have h := pres_f (ih x (List.mem_of_getElem? hx) y)
        simp only [Host.cells, V.ag, List.map_cons, List.map_nil] at h
        rw [laws_eqHostS_round4, lt_t hi, idx_nat hx, idx_nat hy]
        simp only [br, qb, h, unC, fBool]
        rw [wrap_succ (by omega)]
        exact ⟨fun he => by simp only [he, decide_true, Bool.not_true], fun he => by simp only [he, decide_false, Bool.not_false]⟩)
      (a.length + 1) (by omega)
    refine (qb_run hloop).trans ?_
    rw [← he]
    cases e <;> rfl
  · rw [show ((a.length : Int) != (b.length : Int)) = true by simp; omega]
    have : ¬ a = b := fun e => hl (by rw [e])
    simp [br, this]

theorem toHostS_rn (a : List Host) (t0 : Bool) (ha : a.length ≤ 1000000000) (ih : ∀ x ∈ a, RN 67 [.ag (Host.cells x)] [] = some (.ag (Host.cells x), [], [])) :
    RN 43 [.sl t0 .host a] [] = some (.c (.row (.ret 0 0) .host), [], [.row true .host a]) := by
  refine rn_of_resid (n := a.length + 1) ?_
  rw [laws_toHostS_res]
  rw [show (decide ((a.length : Int) = (a.length : Int)) && decide (0 ≤ (a.length : Int)) && ((a.length : Int)).toNat.ble appMax) = true by simp [appMax]; omega]
  simp only [br]
  rw [show ((a.length : Int)).toNat = a.length by omega]
  have hloop := lp_copy (P := Try.prog) (cfg := cfg) (T := RN) (n := a.length + 1) (d := 5) (f := 43) (r := 3) (na := 0) a (zeroEl .host)
    (fun i l => ⟨frOf [(0, .sl t0 .host a), (3, .c (.row (.own 3) .host)), (4, .int i)], hpIds [(.own 3, .row true .host l)]⟩)
    (fun l => ⟨frOf [(3, .c (.row (.own 3) .host))], hpIds [(.own 3, .row true .host l)]⟩)
    (fun _ _ => by rw [laws_toHostS_round3, lt_self]; rfl)
    (fun i x l hx hi hinv => by
      have h := pres_ag (ih x (List.mem_of_getElem? hx))
      simp only [Host.cells, V.ag, List.map_cons, List.map_nil] at h
      obtain ⟨y, hy⟩ : ∃ y, l[i]? = some y := ⟨l[i]'(by omega), by simp⟩
      rw [laws_toHostS_round3, lt_t hi, idx_nat hx]
      simp only [br, qb, h, asEl, lmapM, frzC, Option.bind_some, ofCells, idx_nat hy]
      rw [show ((i : Int)).toNat = i by omega, hy]
      simp only
      rw [wrap_succ (by omega)]
      all_goals rfl)
    (a.length + 1) (by omega)
  refine (qb_run hloop).trans ?_
  rfl

theorem szHostS_rn (a : List Host) (t0 : Bool) (left : Int) (h0 : 0 ≤ left) (h1 : left ≤ 1048576) (ha : a.length ≤ 9223372036854775807) (ih : ∀ x ∈ a, ∀ left : Int, 0 ≤ left → left ≤ 1048576 → RN 61 [.ag (Host.cells x), .int left] [] = some (.int (vLeft (Host.cost x) left), [], [])) :
    RN 36 [.sl t0 .host a, .int left] [] = some (.int (vLeft (a.length + sumC (Host.cost) a) left), [], []) := by
  refine rn_of_resid (n := a.length + 1) ?_
  rw [laws_szHostS_res]
  rw [wrap_id (by omega) (by omega)]
  by_cases hl : (a.length : Int) ≤ left
  · rw [show decide (left - (a.length : Int) < 0) = false by simp; omega]
    simp only [br]
    have hloop := lp_sz (P := Try.prog) (cfg := cfg) (T := RN) (n := a.length + 1) (d := 5) (f := 36) (r := 5) (na := 0) a (Host.cost)
      (fun i left => ⟨frOf [(0, .sl t0 .host a), (1, .int left), (4, .int 0), (5, .int i)], hpIds []⟩)
      (fun left => ⟨frOf [(1, .int left), (4, .int 0)], hpIds []⟩) (fun m => ⟨frOf [(1, .int m), (4, .int (-1))], hpIds []⟩)
      (fun _ _ _ => by rw [laws_szHostS_round5, lt_self]; rfl)
      (fun i x left hx hi h0 h1 => by
        have h := pres_f (ih x (List.mem_of_getElem? hx) left h0 h1)
        simp only [Host.cells, V.ag, List.map_cons, List.map_nil] at h
        rw [laws_szHostS_round5, lt_t hi, idx_nat hx]
        simp only [br, qb, h, unC, fInt]
        refine ⟨fun he => ?_, fun he => ⟨-1, ?_⟩⟩
        · rw [show vLeft (Host.cost x) left = left - (Host.cost x : Nat) by unfold vLeft; rw [if_pos he], show decide (left - ((Host.cost x : Nat) : Int) < 0) = false by simp; omega]
          simp only
          rw [wrap_succ (by omega)]
        · rw [show vLeft (Host.cost x) left = -1 by unfold vLeft; rw [if_neg he]]
          rfl)
      (left - a.length) (a.length + 1) (by omega) (by omega) (by omega)
    by_cases hc : ((sumC (Host.cost) a : Nat) : Int) ≤ left - a.length
    · refine (qb_run (hloop.1 hc)).trans ?_
      rw [show vLeft (a.length + sumC (Host.cost) a) left = left - a.length - sumC (Host.cost) a by unfold vLeft; rw [if_pos (by omega)]; omega]
      rfl
    · obtain ⟨m, hm⟩ := hloop.2 hc
      refine (qb_run hm).trans ?_
      rw [show vLeft (a.length + sumC (Host.cost) a) left = -1 by unfold vLeft; rw [if_neg (by omega)]]
      rfl
  · rw [show decide (left - (a.length : Int) < 0) = true by simp; omega]
    simp only [br, vLeft]
    rw [if_neg (by omega)]

theorem eqLetterS_rn (a b : List Letter) (t0 t1 : Bool) (ha : a.length < 9223372036854775807) (ih : ∀ x ∈ a, ∀ y, RN 74 [.ag (Letter.cells x), .ag (Letter.cells y)] [] = some (.bool (decide (x = y)), [], [])) :
    RN 53 [.sl t0 .letter a, .sl t1 .letter b] [] = some (.bool (decide (a = b)), [], []) := by
  refine rn_of_resid (n := a.length + 1) ?_
  rw [laws_eqLetterS_res]
  by_cases hl : a.length = b.length
  · rw [show ((a.length : Int) != (b.length : Int)) = false by simp [hl]]
    simp only [br]
    obtain ⟨e, he, hloop⟩ := lp_eq (P := Try.prog) (cfg := cfg) (T := RN) (n := a.length + 1) (d := 5) (f := 53) (r := 4) (na := 0) a b hl
      (fun i => ⟨frOf [(0, .sl t0 .letter a), (1, .sl t1 .letter b), (4, .bool false), (5, .int i)], hpIds []⟩)
      (.ext 0, ⟨frOf [(4, .bool false)], hpIds []⟩) (.ret, ⟨frOf [(4, .bool false)], hpIds []⟩)
      (by rw [laws_eqLetterS_round4, lt_self]; rfl) rfl rfl
      (fun i x y hx hy hi => by
        have h := pres_f (ih x (List.mem_of_getElem? hx) y)
        simp only [Letter.cells, V.ag, List.map_cons, List.map_nil] at h
        rw [laws_eqLetterS_round4, lt_t hi, idx_nat hx, idx_nat hy]
        simp only [br, qb, h, unC, fBool]
        rw [wrap_succ (by omega)]
        exact ⟨fun he => by simp only [he, decide_true, Bool.not_true], fun he => by simp only [he, decide_false, Bool.not_false]⟩)
      (a.length + 1) (by omega)
    refine (qb_run hloop).trans ?_
    rw [← he]
    cases e <;> rfl
  · rw [show ((a.length : Int) != (b.length : Int)) = true by simp; omega]
    have : ¬ a = b := fun e => hl (by rw [e])
    simp [br, this]

theorem toLetterS_rn (a : List Letter) (t0 : Bool) (ha : a.length ≤ 1000000000) (ih : ∀ x ∈ a, RN 68 [.ag (Letter.cells x)] [] = some (.ag (Letter.cells x), [], [])) :
    RN 44 [.sl t0 .letter a] [] = some (.c (.row (.ret 0 0) .letter), [], [.row true .letter a]) := by
  refine rn_of_resid (n := a.length + 1) ?_
  rw [laws_toLetterS_res]
  rw [show (decide ((a.length : Int) = (a.length : Int)) && decide (0 ≤ (a.length : Int)) && ((a.length : Int)).toNat.ble appMax) = true by simp [appMax]; omega]
  simp only [br]
  rw [show ((a.length : Int)).toNat = a.length by omega]
  have hloop := lp_copy (P := Try.prog) (cfg := cfg) (T := RN) (n := a.length + 1) (d := 5) (f := 44) (r := 3) (na := 0) a (zeroEl .letter)
    (fun i l => ⟨frOf [(0, .sl t0 .letter a), (3, .c (.row (.own 3) .letter)), (4, .int i)], hpIds [(.own 3, .row true .letter l)]⟩)
    (fun l => ⟨frOf [(3, .c (.row (.own 3) .letter))], hpIds [(.own 3, .row true .letter l)]⟩)
    (fun _ _ => by rw [laws_toLetterS_round3, lt_self]; rfl)
    (fun i x l hx hi hinv => by
      have h := pres_ag (ih x (List.mem_of_getElem? hx))
      simp only [Letter.cells, V.ag, List.map_cons, List.map_nil] at h
      obtain ⟨y, hy⟩ : ∃ y, l[i]? = some y := ⟨l[i]'(by omega), by simp⟩
      rw [laws_toLetterS_round3, lt_t hi, idx_nat hx]
      simp only [br, qb, h, asEl, lmapM, frzC, Option.bind_some, ofCells, idx_nat hy]
      rw [show ((i : Int)).toNat = i by omega, hy]
      simp only
      rw [wrap_succ (by omega)]
      all_goals rfl)
    (a.length + 1) (by omega)
  refine (qb_run hloop).trans ?_
  rfl

theorem szLetterS_rn (a : List Letter) (t0 : Bool) (left : Int) (h0 : 0 ≤ left) (h1 : left ≤ 1048576) (ha : a.length ≤ 9223372036854775807) (ih : ∀ x ∈ a, ∀ left : Int, 0 ≤ left → left ≤ 1048576 → RN 62 [.ag (Letter.cells x), .int left] [] = some (.int (vLeft (Letter.cost x) left), [], [])) :
    RN 37 [.sl t0 .letter a, .int left] [] = some (.int (vLeft (a.length + sumC (Letter.cost) a) left), [], []) := by
  refine rn_of_resid (n := a.length + 1) ?_
  rw [laws_szLetterS_res]
  rw [wrap_id (by omega) (by omega)]
  by_cases hl : (a.length : Int) ≤ left
  · rw [show decide (left - (a.length : Int) < 0) = false by simp; omega]
    simp only [br]
    have hloop := lp_sz (P := Try.prog) (cfg := cfg) (T := RN) (n := a.length + 1) (d := 5) (f := 37) (r := 5) (na := 0) a (Letter.cost)
      (fun i left => ⟨frOf [(0, .sl t0 .letter a), (1, .int left), (4, .int 0), (5, .int i)], hpIds []⟩)
      (fun left => ⟨frOf [(1, .int left), (4, .int 0)], hpIds []⟩) (fun m => ⟨frOf [(1, .int m), (4, .int (-1))], hpIds []⟩)
      (fun _ _ _ => by rw [laws_szLetterS_round5, lt_self]; rfl)
      (fun i x left hx hi h0 h1 => by
        have h := pres_f (ih x (List.mem_of_getElem? hx) left h0 h1)
        simp only [Letter.cells, V.ag, List.map_cons, List.map_nil] at h
        rw [laws_szLetterS_round5, lt_t hi, idx_nat hx]
        simp only [br, qb, h, unC, fInt]
        refine ⟨fun he => ?_, fun he => ⟨-1, ?_⟩⟩
        · rw [show vLeft (Letter.cost x) left = left - (Letter.cost x : Nat) by unfold vLeft; rw [if_pos he], show decide (left - ((Letter.cost x : Nat) : Int) < 0) = false by simp; omega]
          simp only
          rw [wrap_succ (by omega)]
        · rw [show vLeft (Letter.cost x) left = -1 by unfold vLeft; rw [if_neg he]]
          rfl)
      (left - a.length) (a.length + 1) (by omega) (by omega) (by omega)
    by_cases hc : ((sumC (Letter.cost) a : Nat) : Int) ≤ left - a.length
    · refine (qb_run (hloop.1 hc)).trans ?_
      rw [show vLeft (a.length + sumC (Letter.cost) a) left = left - a.length - sumC (Letter.cost) a by unfold vLeft; rw [if_pos (by omega)]; omega]
      rfl
    · obtain ⟨m, hm⟩ := hloop.2 hc
      refine (qb_run hm).trans ?_
      rw [show vLeft (a.length + sumC (Letter.cost) a) left = -1 by unfold vLeft; rw [if_neg (by omega)]]
      rfl
  · rw [show decide (left - (a.length : Int) < 0) = true by simp; omega]
    simp only [br, vLeft]
    rw [if_neg (by omega)]

theorem eqCallS_rn (a b : List CallD) (t0 t1 : Bool) (ha : a.length < 9223372036854775807) (ih : ∀ x ∈ a, ∀ y, RN 75 [.ag (CallD.cells x), .ag (CallD.cells y)] [] = some (.bool (decide (x = y)), [], [])) :
    RN 54 [.sl t0 .call a, .sl t1 .call b] [] = some (.bool (decide (a = b)), [], []) := by
  refine rn_of_resid (n := a.length + 1) ?_
  rw [laws_eqCallS_res]
  by_cases hl : a.length = b.length
  · rw [show ((a.length : Int) != (b.length : Int)) = false by simp [hl]]
    simp only [br]
    obtain ⟨e, he, hloop⟩ := lp_eq (P := Try.prog) (cfg := cfg) (T := RN) (n := a.length + 1) (d := 5) (f := 54) (r := 4) (na := 0) a b hl
      (fun i => ⟨frOf [(0, .sl t0 .call a), (1, .sl t1 .call b), (4, .bool false), (5, .int i)], hpIds []⟩)
      (.ext 0, ⟨frOf [(4, .bool false)], hpIds []⟩) (.ret, ⟨frOf [(4, .bool false)], hpIds []⟩)
      (by rw [laws_eqCallS_round4, lt_self]; rfl) rfl rfl
      (fun i x y hx hy hi => by
        have h := pres_f (ih x (List.mem_of_getElem? hx) y)
        simp only [CallD.cells, V.ag, List.map_cons, List.map_nil] at h
        rw [laws_eqCallS_round4, lt_t hi, idx_nat hx, idx_nat hy]
        simp only [br, qb, h, unC, fBool]
        rw [wrap_succ (by omega)]
        exact ⟨fun he => by simp only [he, decide_true, Bool.not_true], fun he => by simp only [he, decide_false, Bool.not_false]⟩)
      (a.length + 1) (by omega)
    refine (qb_run hloop).trans ?_
    rw [← he]
    cases e <;> rfl
  · rw [show ((a.length : Int) != (b.length : Int)) = true by simp; omega]
    have : ¬ a = b := fun e => hl (by rw [e])
    simp [br, this]

theorem toCallS_rn (a : List CallD) (t0 : Bool) (ha : a.length ≤ 1000000000) (ih : ∀ x ∈ a, RN 69 [.ag (CallD.cells x)] [] = some (.ag (CallD.cells x), [], [])) :
    RN 45 [.sl t0 .call a] [] = some (.c (.row (.ret 0 0) .call), [], [.row true .call a]) := by
  refine rn_of_resid (n := a.length + 1) ?_
  rw [laws_toCallS_res]
  rw [show (decide ((a.length : Int) = (a.length : Int)) && decide (0 ≤ (a.length : Int)) && ((a.length : Int)).toNat.ble appMax) = true by simp [appMax]; omega]
  simp only [br]
  rw [show ((a.length : Int)).toNat = a.length by omega]
  have hloop := lp_copy (P := Try.prog) (cfg := cfg) (T := RN) (n := a.length + 1) (d := 5) (f := 45) (r := 3) (na := 0) a (zeroEl .call)
    (fun i l => ⟨frOf [(0, .sl t0 .call a), (3, .c (.row (.own 3) .call)), (4, .int i)], hpIds [(.own 3, .row true .call l)]⟩)
    (fun l => ⟨frOf [(3, .c (.row (.own 3) .call))], hpIds [(.own 3, .row true .call l)]⟩)
    (fun _ _ => by rw [laws_toCallS_round3, lt_self]; rfl)
    (fun i x l hx hi hinv => by
      have h := pres_ag (ih x (List.mem_of_getElem? hx))
      simp only [CallD.cells, V.ag, List.map_cons, List.map_nil] at h
      obtain ⟨y, hy⟩ : ∃ y, l[i]? = some y := ⟨l[i]'(by omega), by simp⟩
      rw [laws_toCallS_round3, lt_t hi, idx_nat hx]
      simp only [br, qb, h, asEl, lmapM, frzC, Option.bind_some, ofCells, idx_nat hy]
      rw [show ((i : Int)).toNat = i by omega, hy]
      simp only
      rw [wrap_succ (by omega)]
      simp only [Term.eta]
      all_goals rfl)
    (a.length + 1) (by omega)
  refine (qb_run hloop).trans ?_
  rfl

theorem szCallS_rn (a : List CallD) (t0 : Bool) (left : Int) (h0 : 0 ≤ left) (h1 : left ≤ 1048576) (ha : a.length ≤ 9223372036854775807) (ih : ∀ x ∈ a, ∀ left : Int, 0 ≤ left → left ≤ 1048576 → RN 63 [.ag (CallD.cells x), .int left] [] = some (.int (vLeft (CallD.cost x) left), [], [])) :
    RN 38 [.sl t0 .call a, .int left] [] = some (.int (vLeft (a.length + sumC (CallD.cost) a) left), [], []) := by
  refine rn_of_resid (n := a.length + 1) ?_
  rw [laws_szCallS_res]
  rw [wrap_id (by omega) (by omega)]
  by_cases hl : (a.length : Int) ≤ left
  · rw [show decide (left - (a.length : Int) < 0) = false by simp; omega]
    simp only [br]
    have hloop := lp_sz (P := Try.prog) (cfg := cfg) (T := RN) (n := a.length + 1) (d := 5) (f := 38) (r := 5) (na := 0) a (CallD.cost)
      (fun i left => ⟨frOf [(0, .sl t0 .call a), (1, .int left), (4, .int 0), (5, .int i)], hpIds []⟩)
      (fun left => ⟨frOf [(1, .int left), (4, .int 0)], hpIds []⟩) (fun m => ⟨frOf [(1, .int m), (4, .int (-1))], hpIds []⟩)
      (fun _ _ _ => by rw [laws_szCallS_round5, lt_self]; rfl)
      (fun i x left hx hi h0 h1 => by
        have h := pres_f (ih x (List.mem_of_getElem? hx) left h0 h1)
        simp only [CallD.cells, V.ag, List.map_cons, List.map_nil] at h
        rw [laws_szCallS_round5, lt_t hi, idx_nat hx]
        simp only [br, qb, h, unC, fInt]
        refine ⟨fun he => ?_, fun he => ⟨-1, ?_⟩⟩
        · rw [show vLeft (CallD.cost x) left = left - (CallD.cost x : Nat) by unfold vLeft; rw [if_pos he], show decide (left - ((CallD.cost x : Nat) : Int) < 0) = false by simp; omega]
          simp only
          rw [wrap_succ (by omega)]
        · rw [show vLeft (CallD.cost x) left = -1 by unfold vLeft; rw [if_neg he]]
          rfl)
      (left - a.length) (a.length + 1) (by omega) (by omega) (by omega)
    by_cases hc : ((sumC (CallD.cost) a : Nat) : Int) ≤ left - a.length
    · refine (qb_run (hloop.1 hc)).trans ?_
      rw [show vLeft (a.length + sumC (CallD.cost) a) left = left - a.length - sumC (CallD.cost) a by unfold vLeft; rw [if_pos (by omega)]; omega]
      rfl
    · obtain ⟨m, hm⟩ := hloop.2 hc
      refine (qb_run hm).trans ?_
      rw [show vLeft (a.length + sumC (CallD.cost) a) left = -1 by unfold vLeft; rw [if_neg (by omega)]]
      rfl
  · rw [show decide (left - (a.length : Int) < 0) = true by simp; omega]
    simp only [br, vLeft]
    rw [if_neg (by omega)]

theorem eqTalkS_rn (a b : List Talk) (t0 t1 : Bool) (ha : a.length < 9223372036854775807) (ih : ∀ x ∈ a, ∀ y, RN 76 [.ag (Talk.cells x), .ag (Talk.cells y)] [] = some (.bool (decide (x = y)), [], [])) :
    RN 55 [.sl t0 .talk a, .sl t1 .talk b] [] = some (.bool (decide (a = b)), [], []) := by
  refine rn_of_resid (n := a.length + 1) ?_
  rw [laws_eqTalkS_res]
  by_cases hl : a.length = b.length
  · rw [show ((a.length : Int) != (b.length : Int)) = false by simp [hl]]
    simp only [br]
    obtain ⟨e, he, hloop⟩ := lp_eq (P := Try.prog) (cfg := cfg) (T := RN) (n := a.length + 1) (d := 5) (f := 55) (r := 4) (na := 0) a b hl
      (fun i => ⟨frOf [(0, .sl t0 .talk a), (1, .sl t1 .talk b), (4, .bool false), (5, .int i)], hpIds []⟩)
      (.ext 0, ⟨frOf [(4, .bool false)], hpIds []⟩) (.ret, ⟨frOf [(4, .bool false)], hpIds []⟩)
      (by rw [laws_eqTalkS_round4, lt_self]; rfl) rfl rfl
      (fun i x y hx hy hi => by
        have h := pres_f (ih x (List.mem_of_getElem? hx) y)
        simp only [Talk.cells, V.ag, List.map_cons, List.map_nil] at h
        rw [laws_eqTalkS_round4, lt_t hi, idx_nat hx, idx_nat hy]
        simp only [br, qb, h, unC, fBool]
        rw [wrap_succ (by omega)]
        exact ⟨fun he => by simp only [he, decide_true, Bool.not_true], fun he => by simp only [he, decide_false, Bool.not_false]⟩)
      (a.length + 1) (by omega)
    refine (qb_run hloop).trans ?_
    rw [← he]
    cases e <;> rfl
  · rw [show ((a.length : Int) != (b.length : Int)) = true by simp; omega]
    have : ¬ a = b := fun e => hl (by rw [e])
    simp [br, this]

theorem toTalkS_rn (a : List Talk) (t0 : Bool) (ha : a.length ≤ 1000000000) (ih : ∀ x ∈ a, RN 70 [.ag (Talk.cells x)] [] = some (.ag (Talk.cells x), [], [])) :
    RN 46 [.sl t0 .talk a] [] = some (.c (.row (.ret 0 0) .talk), [], [.row true .talk a]) := by
  refine rn_of_resid (n := a.length + 1) ?_
  rw [laws_toTalkS_res]
  rw [show (decide ((a.length : Int) = (a.length : Int)) && decide (0 ≤ (a.length : Int)) && ((a.length : Int)).toNat.ble appMax) = true by simp [appMax]; omega]
  simp only [br]
  rw [show ((a.length : Int)).toNat = a.length by omega]
  have hloop := lp_copy (P := Try.prog) (cfg := cfg) (T := RN) (n := a.length + 1) (d := 5) (f := 46) (r := 3) (na := 0) a (zeroEl .talk)
    (fun i l => ⟨frOf [(0, .sl t0 .talk a), (3, .c (.row (.own 3) .talk)), (4, .int i)], hpIds [(.own 3, .row true .talk l)]⟩)
    (fun l => ⟨frOf [(3, .c (.row (.own 3) .talk))], hpIds [(.own 3, .row true .talk l)]⟩)
    (fun _ _ => by rw [laws_toTalkS_round3, lt_self]; rfl)
    (fun i x l hx hi hinv => by
      have h := pres_ag (ih x (List.mem_of_getElem? hx))
      simp only [Talk.cells, V.ag, List.map_cons, List.map_nil] at h
      obtain ⟨y, hy⟩ : ∃ y, l[i]? = some y := ⟨l[i]'(by omega), by simp⟩
      rw [laws_toTalkS_round3, lt_t hi, idx_nat hx]
      simp only [br, qb, h, asEl, lmapM, frzC, Option.bind_some, ofCells, idx_nat hy]
      rw [show ((i : Int)).toNat = i by omega, hy]
      simp only
      rw [wrap_succ (by omega)]
      simp only [Term.eta]
      all_goals rfl)
    (a.length + 1) (by omega)
  refine (qb_run hloop).trans ?_
  rfl

theorem szTalkS_rn (a : List Talk) (t0 : Bool) (left : Int) (h0 : 0 ≤ left) (h1 : left ≤ 1048576) (ha : a.length ≤ 9223372036854775807) (ih : ∀ x ∈ a, ∀ left : Int, 0 ≤ left → left ≤ 1048576 → RN 64 [.ag (Talk.cells x), .int left] [] = some (.int (vLeft (Talk.cost x) left), [], [])) :
    RN 39 [.sl t0 .talk a, .int left] [] = some (.int (vLeft (a.length + sumC (Talk.cost) a) left), [], []) := by
  refine rn_of_resid (n := a.length + 1) ?_
  rw [laws_szTalkS_res]
  rw [wrap_id (by omega) (by omega)]
  by_cases hl : (a.length : Int) ≤ left
  · rw [show decide (left - (a.length : Int) < 0) = false by simp; omega]
    simp only [br]
    have hloop := lp_sz (P := Try.prog) (cfg := cfg) (T := RN) (n := a.length + 1) (d := 5) (f := 39) (r := 5) (na := 0) a (Talk.cost)
      (fun i left => ⟨frOf [(0, .sl t0 .talk a), (1, .int left), (4, .int 0), (5, .int i)], hpIds []⟩)
      (fun left => ⟨frOf [(1, .int left), (4, .int 0)], hpIds []⟩) (fun m => ⟨frOf [(1, .int m), (4, .int (-1))], hpIds []⟩)
      (fun _ _ _ => by rw [laws_szTalkS_round5, lt_self]; rfl)
      (fun i x left hx hi h0 h1 => by
        have h := pres_f (ih x (List.mem_of_getElem? hx) left h0 h1)
        simp only [Talk.cells, V.ag, List.map_cons, List.map_nil] at h
        rw [laws_szTalkS_round5, lt_t hi, idx_nat hx]
        simp only [br, qb, h, unC, fInt]
        refine ⟨fun he => ?_, fun he => ⟨-1, ?_⟩⟩
        · rw [show vLeft (Talk.cost x) left = left - (Talk.cost x : Nat) by unfold vLeft; rw [if_pos he], show decide (left - ((Talk.cost x : Nat) : Int) < 0) = false by simp; omega]
          simp only
          rw [wrap_succ (by omega)]
        · rw [show vLeft (Talk.cost x) left = -1 by unfold vLeft; rw [if_neg he]]
          rfl)
      (left - a.length) (a.length + 1) (by omega) (by omega) (by omega)
    by_cases hc : ((sumC (Talk.cost) a : Nat) : Int) ≤ left - a.length
    · refine (qb_run (hloop.1 hc)).trans ?_
      rw [show vLeft (a.length + sumC (Talk.cost) a) left = left - a.length - sumC (Talk.cost) a by unfold vLeft; rw [if_pos (by omega)]; omega]
      rfl
    · obtain ⟨m, hm⟩ := hloop.2 hc
      refine (qb_run hm).trans ?_
      rw [show vLeft (a.length + sumC (Talk.cost) a) left = -1 by unfold vLeft; rw [if_neg (by omega)]]
      rfl
  · rw [show decide (left - (a.length : Int) < 0) = true by simp; omega]
    simp only [br, vLeft]
    rw [if_neg (by omega)]

end Go.Proofs.Ytepghohkfnmhmaa
