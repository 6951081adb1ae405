/-
  What is judged of a world.
-/
import Derived.Test.YtoebfbhcbpiheaaGreatDoorJbWw
import Derived.Test.YtoebfbhcbpiheaaGreatDoorJbKn
namespace Go.Proofs.YtoebfbhcbpiheaaGreatDoor
open Go.Vm
set_option linter.unusedVariables false
set_option linter.unusedSimpArgs false

theorem spec_JudgeHeld_t (w : WorldD) (hw : w.cost ≤ 900000000) : spec_JudgeHeld_T w = some (judgeHeld w) := by
  have hw' := hw
  rw [world_cost] at hw'
  refine spec_JudgeHeld_of (w.calls.length + 1) w ?_
  unfold spec_JudgeHeld_R judgeHeld
  rw [spec_WorldOk_t w hw, qb_s]
  cases worldOk w with
  | false => rfl
  | true =>
    rw [Bool.not_true, br_f]
    refine (qb_run (spec_JudgeHeld_L4_if (lp_any w.calls heldBad (fun i => spec_JudgeHeld_S4 false i w) (.ext 0, spec_JudgeHeld_O4 false) (.ret, spec_JudgeHeld_O4 false)
      (by rw [spec_JudgeHeld_round4, lt_self]; rfl) rfl rfl
      (fun i x hx hi => by
        rw [spec_JudgeHeld_round4, lt_t hi, idx_nat hx]
        simp only [br_t, qb_s, spec_l1In_t]
        rw [wrap_succ (by omega)]
        unfold heldBad inR
        cases x.client.must <;> cases (decide (5 ≤ x.client.step) && decide (x.client.step ≤ 9)) <;> cases x.client.tls <;> cases x.client.proved <;> cases x.good <;> rfl) (w.calls.length + 1) (by omega)))).trans ?_
    cases w.calls.any heldBad <;> rfl
theorem IndexFunc_JudgeHeld_1_t (a : List CallD)  (hl : a.length < 4611686018427387904)  : slices_IndexFunc_impl_Call_impl_Call_T a (.c (.fn 92 [])) = some (idxOf heldBad a) := by
  refine IndexFunc_JudgeHeld_1_of (a.length + 1) a  ?_
  unfold IndexFunc_JudgeHeld_1_R
  have hloop := lp_at (P := Tryz.prog) (cfg := cfg) (T := RN) (n := a.length + 1) (d := 5) (f := 173) (r := 2) (na := 0) a heldBad (fun i => IndexFunc_JudgeHeld_1_S2 false a  0 a.length i) (.ext 0, IndexFunc_JudgeHeld_1_O2 0) (fun i => (.ret, IndexFunc_JudgeHeld_1_O2 i))
    (by rw [IndexFunc_JudgeHeld_1_round2, lt_self]; rfl) rfl (fun _ => rfl)
    (fun i x hx hi => by
      have hm := List.mem_of_getElem? hx
      rw [IndexFunc_JudgeHeld_1_round2, lt_t hi, idx_nat hx]
      simp only [br_t, qb_s, impl_in_t]
      rw [wrap_succ (by omega)]
      unfold heldBad inR; cases x.client.must <;> cases (decide (5 ≤ x.client.step) && decide (x.client.step ≤ 9)) <;> cases x.client.tls <;> cases x.client.proved <;> cases x.good <;> rfl) (a.length + 1) (by omega)
  unfold idxOf
  cases h : a.findIdx? heldBad with
  | none => rw [h] at hloop; exact (qb_run (IndexFunc_JudgeHeld_1_L2_of hloop)).trans rfl
  | some i => rw [h] at hloop; exact (qb_run (IndexFunc_JudgeHeld_1_L2_of hloop)).trans rfl

theorem ContainsFunc_JudgeHeld_1_t (a : List CallD)  (hl : a.length < 4611686018427387904)  : slices_ContainsFunc_impl_Call_impl_Call_T a (.c (.fn 92 [])) = some (a.any heldBad) := by
  refine ContainsFunc_JudgeHeld_1_of 0 a  ?_
  unfold ContainsFunc_JudgeHeld_1_R
  rw [IndexFunc_JudgeHeld_1_t a  hl , qb_s, idxOf_ge]


theorem impl_JudgeHeld_t (w : WorldD) (hw : w.cost ≤ 900000000) : impl_JudgeHeld_T w = some (judgeHeld w) := by
  have hw' := hw
  rw [world_cost] at hw'
  refine impl_JudgeHeld_of 0 w ?_
  unfold impl_JudgeHeld_R judgeHeld
  rw [impl_WorldOk_t w hw, qb_s, ContainsFunc_JudgeHeld_1_t w.calls (by omega), qb_s]
  cases worldOk w <;> rfl
theorem spec_l15Got_t (w : WorldD) (b : Int) (hw : w.cost ≤ 900000000) : spec_l15Got_T w b = some (gotB w b) := by
  rw [world_cost] at hw
  refine spec_l15Got_of (w.talks.length + 1) w b ?_
  unfold spec_l15Got_R
  refine (qb_run (spec_l15Got_L2_if (lp_any w.talks (fun t => hasI t.server.got b) (fun i => spec_l15Got_S2 b false i w) (.ext 0, spec_l15Got_O2 false) (.ret, spec_l15Got_O2 true)
    (by rw [spec_l15Got_round2, lt_self]; rfl) rfl rfl
    (fun i x hx hi => by
      have := talk_cost (List.mem_of_getElem? hx)
      rw [spec_l15Got_round2, lt_t hi, idx_nat hx]
      simp only [br_t, qb_s, spec_l15In_t x.server.got b (by omega)]
      rw [wrap_succ (by omega)]
      cases hasI x.server.got b <;> rfl) (w.talks.length + 1) (by omega)))).trans ?_
  unfold gotB
  cases w.talks.any (fun t => hasI t.server.got b) <;> rfl
theorem spec_JudgeTaken_t (w : WorldD) (hw : w.cost ≤ 900000000) : spec_JudgeTaken_T w = some (judgeTaken w) := by
  have hw' := hw
  rw [world_cost] at hw'
  refine spec_JudgeTaken_of (w.calls.length + 1) w ?_
  unfold spec_JudgeTaken_R judgeTaken
  rw [spec_WorldOk_t w hw, qb_s]
  cases worldOk w with
  | false => rfl
  | true =>
    rw [Bool.not_true, br_f]
    refine (qb_run (spec_JudgeTaken_L4_if (lp_any w.calls (takenBad w) (fun i => spec_JudgeTaken_S4 false i w) (.ext 0, spec_JudgeTaken_O4 false) (.ret, spec_JudgeTaken_O4 false)
      (by rw [spec_JudgeTaken_round4, lt_self]; rfl) rfl rfl
      (fun i x hx hi => by
        rw [spec_JudgeTaken_round4, lt_t hi, idx_nat hx]
        simp only [br_t, qb_s, spec_l15Got_t w x.client.body hw, beq_int]
        rw [wrap_succ (by omega)]
        unfold takenBad
        cases x.good <;> cases decide (x.client.step = 9) <;> cases gotB w x.client.body <;> rfl) (w.calls.length + 1) (by omega)))).trans ?_
    cases w.calls.any (takenBad w) <;> rfl
theorem IndexFunc_JudgeTaken_1_1_t (a : List Talk) (c0 : CallD) (hl : a.length < 4611686018427387904) (ha : ∀ x ∈ a, x.server.got.length < 4611686018427387904) : slices_IndexFunc_impl_Talk_impl_Talk_T a (.c (.fn 96 [.f (.ep .call c0 0)])) = some (idxOf (fun t : Talk => hasI t.server.got c0.client.body) a) := by
  refine IndexFunc_JudgeTaken_1_1_of (a.length + 1) a c0 ?_
  unfold IndexFunc_JudgeTaken_1_1_R
  have hloop := lp_at (P := Tryz.prog) (cfg := cfg) (T := RN) (n := a.length + 1) (d := 5) (f := 174) (r := 2) (na := 0) a (fun t : Talk => hasI t.server.got c0.client.body) (fun i => IndexFunc_JudgeTaken_1_1_S2 false a c0 0 a.length i) (.ext 0, IndexFunc_JudgeTaken_1_1_O2 0) (fun i => (.ret, IndexFunc_JudgeTaken_1_1_O2 i))
    (by rw [IndexFunc_JudgeTaken_1_1_round2, lt_self]; rfl) rfl (fun _ => rfl)
    (fun i x hx hi => by
      have hm := List.mem_of_getElem? hx
      rw [IndexFunc_JudgeTaken_1_1_round2, lt_t hi, idx_nat hx]
      simp only [br_t, qb_s, Contains_int_t x.server.got c0.client.body (ha x hm)]
      rw [wrap_succ (by omega)]
      cases hasI x.server.got c0.client.body <;> rfl) (a.length + 1) (by omega)
  unfold idxOf
  cases h : a.findIdx? (fun t : Talk => hasI t.server.got c0.client.body) with
  | none => rw [h] at hloop; exact (qb_run (IndexFunc_JudgeTaken_1_1_L2_of hloop)).trans rfl
  | some i => rw [h] at hloop; exact (qb_run (IndexFunc_JudgeTaken_1_1_L2_of hloop)).trans rfl

theorem ContainsFunc_JudgeTaken_1_1_t (a : List Talk) (c0 : CallD) (hl : a.length < 4611686018427387904) (ha : ∀ x ∈ a, x.server.got.length < 4611686018427387904) : slices_ContainsFunc_impl_Talk_impl_Talk_T a (.c (.fn 96 [.f (.ep .call c0 0)])) = some (a.any (fun t : Talk => hasI t.server.got c0.client.body)) := by
  refine ContainsFunc_JudgeTaken_1_1_of 0 a c0 ?_
  unfold ContainsFunc_JudgeTaken_1_1_R
  rw [IndexFunc_JudgeTaken_1_1_t a c0 hl ha, qb_s, idxOf_ge]


theorem IndexFunc_JudgeTaken_1_t (a : List CallD) (c0 : WorldD) (hl : a.length < 4611686018427387904) (ht : c0.talks.length < 4611686018427387904) (hg : ∀ x ∈ c0.talks, x.server.got.length < 4611686018427387904) : slices_IndexFunc_impl_Call_impl_Call_T a (.c (.fn 94 [.f (.ep .world c0 0)])) = some (idxOf (takenBad c0) a) := by
  refine IndexFunc_JudgeTaken_1_of (a.length + 1) a c0 ?_
  unfold IndexFunc_JudgeTaken_1_R
  have hloop := lp_at (P := Tryz.prog) (cfg := cfg) (T := RN) (n := a.length + 1) (d := 5) (f := 173) (r := 2) (na := 0) a (takenBad c0) (fun i => IndexFunc_JudgeTaken_1_S2 false a c0 0 a.length i) (.ext 0, IndexFunc_JudgeTaken_1_O2 0) (fun i => (.ret, IndexFunc_JudgeTaken_1_O2 i))
    (by rw [IndexFunc_JudgeTaken_1_round2, lt_self]; rfl) rfl (fun _ => rfl)
    (fun i x hx hi => by
      have hm := List.mem_of_getElem? hx
      rw [IndexFunc_JudgeTaken_1_round2, lt_t hi, idx_nat hx]
      simp only [br_t, qb_s, Term.eta, ContainsFunc_JudgeTaken_1_1_t c0.talks x ht hg, beq_int]
      rw [wrap_succ (by omega)]
      unfold takenBad gotB; cases x.good <;> cases decide (x.client.step = 9) <;> cases (c0.talks.any fun t => hasI t.server.got x.client.body) <;> rfl) (a.length + 1) (by omega)
  unfold idxOf
  cases h : a.findIdx? (takenBad c0) with
  | none => rw [h] at hloop; exact (qb_run (IndexFunc_JudgeTaken_1_L2_of hloop)).trans rfl
  | some i => rw [h] at hloop; exact (qb_run (IndexFunc_JudgeTaken_1_L2_of hloop)).trans rfl

theorem ContainsFunc_JudgeTaken_1_t (a : List CallD) (c0 : WorldD) (hl : a.length < 4611686018427387904) (ht : c0.talks.length < 4611686018427387904) (hg : ∀ x ∈ c0.talks, x.server.got.length < 4611686018427387904) : slices_ContainsFunc_impl_Call_impl_Call_T a (.c (.fn 94 [.f (.ep .world c0 0)])) = some (a.any (takenBad c0)) := by
  refine ContainsFunc_JudgeTaken_1_of 0 a c0 ?_
  unfold ContainsFunc_JudgeTaken_1_R
  rw [IndexFunc_JudgeTaken_1_t a c0 hl ht hg, qb_s, idxOf_ge]


theorem impl_JudgeTaken_t (w : WorldD) (hw : w.cost ≤ 900000000) : impl_JudgeTaken_T w = some (judgeTaken w) := by
  have hw' := hw
  rw [world_cost] at hw'
  refine impl_JudgeTaken_of 0 w ?_
  unfold impl_JudgeTaken_R judgeTaken
  rw [impl_WorldOk_t w hw, qb_s, ContainsFunc_JudgeTaken_1_t w.calls w (by omega) (by omega) (fun x hx => by have := talk_cost hx; omega), qb_s]
  cases worldOk w <;> rfl
theorem spec_JudgeSecret_t (w : WorldD) (hw : w.cost ≤ 900000000) : spec_JudgeSecret_T w = some (judgeSecret w) := by
  have hw' := hw
  rw [world_cost] at hw'
  refine spec_JudgeSecret_of (w.letters.length + 1) w ?_
  unfold spec_JudgeSecret_R judgeSecret
  rw [spec_WorldOk_t w hw, qb_s]
  cases worldOk w with
  | false => rfl
  | true =>
    rw [Bool.not_true, br_f]
    refine (qb_run (spec_JudgeSecret_L4_if (lp_any w.letters (secretBad w) (fun i => spec_JudgeSecret_S4 false i w) (.ext 0, spec_JudgeSecret_O4 false) (.ret, spec_JudgeSecret_O4 false)
      (by rw [spec_JudgeSecret_round4, lt_self]; rfl) rfl rfl
      (fun i x hx hi => by
        rw [spec_JudgeSecret_round4, lt_t hi, idx_nat hx]
        simp only [br_t, qb_s, spec_l15In_t w.told x.body (by omega), spec_Atom_t, spec_MadeA_t w.known x.body (by omega)]
        rw [wrap_succ (by omega)]
        unfold secretBad
        cases hasI w.told x.body <;> cases madeA w.known (atomT x.body) <;> rfl) (w.letters.length + 1) (by omega)))).trans ?_
    cases w.letters.any (secretBad w) <;> rfl
theorem IndexFunc_JudgeSecret_1_t (a : List Letter) (c0 : WorldD) (hl : a.length < 4611686018427387904) (ht : c0.told.length < 4611686018427387904) (hk : Term.costs c0.known < 4611686018427387904) : slices_IndexFunc_impl_Letter_impl_Letter_T a (.c (.fn 100 [.f (.ep .world c0 0)])) = some (idxOf (secretBad c0) a) := by
  refine IndexFunc_JudgeSecret_1_of (a.length + 1) a c0 ?_
  unfold IndexFunc_JudgeSecret_1_R
  have hloop := lp_at (P := Tryz.prog) (cfg := cfg) (T := RN) (n := a.length + 1) (d := 5) (f := 165) (r := 2) (na := 0) a (secretBad c0) (fun i => IndexFunc_JudgeSecret_1_S2 false a c0 0 a.length i) (.ext 0, IndexFunc_JudgeSecret_1_O2 0) (fun i => (.ret, IndexFunc_JudgeSecret_1_O2 i))
    (by rw [IndexFunc_JudgeSecret_1_round2, lt_self]; rfl) rfl (fun _ => rfl)
    (fun i x hx hi => by
      have hm := List.mem_of_getElem? hx
      rw [IndexFunc_JudgeSecret_1_round2, lt_t hi, idx_nat hx]
      simp only [br_t, qb_s, Contains_int_t c0.told x.body ht, impl_Atom_t, impl_MadeA_t c0.known x.body hk]
      rw [wrap_succ (by omega)]
      unfold secretBad; cases hasI c0.told x.body <;> cases madeA c0.known (atomT x.body) <;> rfl) (a.length + 1) (by omega)
  unfold idxOf
  cases h : a.findIdx? (secretBad c0) with
  | none => rw [h] at hloop; exact (qb_run (IndexFunc_JudgeSecret_1_L2_of hloop)).trans rfl
  | some i => rw [h] at hloop; exact (qb_run (IndexFunc_JudgeSecret_1_L2_of hloop)).trans rfl

theorem ContainsFunc_JudgeSecret_1_t (a : List Letter) (c0 : WorldD) (hl : a.length < 4611686018427387904) (ht : c0.told.length < 4611686018427387904) (hk : Term.costs c0.known < 4611686018427387904) : slices_ContainsFunc_impl_Letter_impl_Letter_T a (.c (.fn 100 [.f (.ep .world c0 0)])) = some (a.any (secretBad c0)) := by
  refine ContainsFunc_JudgeSecret_1_of 0 a c0 ?_
  unfold ContainsFunc_JudgeSecret_1_R
  rw [IndexFunc_JudgeSecret_1_t a c0 hl ht hk, qb_s, idxOf_ge]


theorem impl_JudgeSecret_t (w : WorldD) (hw : w.cost ≤ 900000000) : impl_JudgeSecret_T w = some (judgeSecret w) := by
  have hw' := hw
  rw [world_cost] at hw'
  refine impl_JudgeSecret_of 0 w ?_
  unfold impl_JudgeSecret_R judgeSecret
  rw [impl_WorldOk_t w hw, qb_s, ContainsFunc_JudgeSecret_1_t w.letters w (by omega) (by omega) (by omega), qb_s]
  cases worldOk w <;> rfl
end Go.Proofs.YtoebfbhcbpiheaaGreatDoor
