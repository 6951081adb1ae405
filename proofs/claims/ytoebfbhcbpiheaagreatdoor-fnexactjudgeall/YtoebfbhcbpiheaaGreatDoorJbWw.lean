/-
  Worlds that are right.
-/
import Derived.Test.YtoebfbhcbpiheaaGreatDoorJbWk
namespace Go.Proofs.YtoebfbhcbpiheaaGreatDoor
open Go.Vm
set_option linter.unusedVariables false
set_option linter.unusedSimpArgs false

theorem world_cost (w : WorldD) : w.cost = Term.costs w.known + ((w.cache.length + sumC Policy.cost w.cache) + ((w.hosts.length + sumC Host.cost w.hosts) + ((w.letters.length + sumC Letter.cost w.letters) + (w.book.size + ((w.calls.length + sumC CallD.cost w.calls) + ((w.talks.length + sumC Talk.cost w.talks) + w.told.length)))))) := rfl

theorem call_cost {l : List CallD} {c : CallD} (h : c ∈ l) : c.client.host.size + c.client.share.cost ≤ sumC CallD.cost l := sumC_mem CallD.cost h
theorem talk_cost {l : List Talk} {t : Talk} (h : t ∈ l) : t.server.host.size + t.server.cert.cost + t.server.share.cost + t.server.got.length ≤ sumC Talk.cost l := sumC_mem Talk.cost h
theorem letter_cost {l : List Letter} {t : Letter} (h : t ∈ l) : t.domain.size ≤ sumC Letter.cost l := sumC_mem Letter.cost h

theorem spec_l13Open_t (w : WorldD) (hw : w.cost ≤ 900000000) : spec_l13Open_T w = some (linesOk w) := by
  rw [world_cost] at hw
  have hn1 : w.calls.length ≤ 900000000 := by omega
  have hn2 : w.talks.length ≤ 900000000 := by omega
  refine spec_l13Open_of (w.calls.length + w.talks.length + 1) w ?_
  unfold spec_l13Open_R
  generalize hN : w.calls.length + w.talks.length + 1 = N
  refine (qb_run (spec_l13Open_L2_if (lp_all w.calls (fun c => inR c.letter 0 ((w.letters.length : Int) - 1) && clientOk c.client) (fun i => spec_l13Open_S2 false i w) (.ext 0, spec_l13Open_O2 false w) (.ret, spec_l13Open_O2 false w)
    (by rw [spec_l13Open_round2, lt_self]; rfl) rfl rfl
    (fun i x hx hi => by
      have := call_cost (List.mem_of_getElem? hx)
      rw [spec_l13Open_round2, lt_t hi, idx_nat hx]
      simp only [br_t, qb_s, spec_l1In_t, spec_ClientOk_t x.client (by omega) (by omega)]
      rw [wrap_succ (by omega), wrap_id (by omega) (by omega)]
      unfold inR
      cases (decide (0 ≤ x.letter) && decide (x.letter ≤ (w.letters.length : Int) - 1)) <;> cases clientOk x.client <;> rfl) N (by omega)))).trans ?_
  unfold linesOk
  cases hc : w.calls.all (fun c => inR c.letter 0 ((w.letters.length : Int) - 1) && clientOk c.client) with
  | false => rfl
  | true =>
    simp only [if_true, isRetE_e, isExt_e, br_t, br_f, Bool.true_and]
    refine (qb_run (spec_l13Open_L7_if (lp_all w.talks (fun t => inR t.host 0 ((w.hosts.length : Int) - 1) && serverOk t.server) (fun i => spec_l13Open_S7 false i w) (.ext 2, spec_l13Open_O7 false w) (.ret, spec_l13Open_O7 false w)
      (by rw [spec_l13Open_round7, lt_self]; rfl) rfl rfl
      (fun i x hx hi => by
        have := talk_cost (List.mem_of_getElem? hx)
        rw [spec_l13Open_round7, lt_t hi, idx_nat hx]
        simp only [br_t, qb_s, spec_l1In_t, spec_ServerOk_t x.server (by omega) (by omega) (by omega) (by omega)]
        rw [wrap_succ (by omega), wrap_id (by omega) (by omega)]
        unfold inR
        cases (decide (0 ≤ x.host) && decide (x.host ≤ (w.hosts.length : Int) - 1)) <;> cases serverOk x.server <;> rfl) N (by omega)))).trans ?_
    cases ht : w.talks.all (fun t => inR t.host 0 ((w.hosts.length : Int) - 1) && serverOk t.server) with
    | false => rfl
    | true =>
      simp only [if_true, isRetE_e, isExt_e, br_t, br_f, Bool.true_and]
      cases decide ((w.calls.length : Int) ≤ 12) <;> rfl

theorem impl_linesOk_t (w : WorldD) (hw : w.cost ≤ 900000000) : impl_linesOk_T w = some (linesOk w) := by
  rw [world_cost] at hw
  have hn1 : w.calls.length ≤ 900000000 := by omega
  have hn2 : w.talks.length ≤ 900000000 := by omega
  refine impl_linesOk_of (w.calls.length + w.talks.length + 1) w ?_
  unfold impl_linesOk_R
  generalize hN : w.calls.length + w.talks.length + 1 = N
  refine (qb_run (impl_linesOk_L2_if (lp_all w.calls (fun c => inR c.letter 0 ((w.letters.length : Int) - 1) && clientOk c.client) (fun i => impl_linesOk_S2 false false w.calls w.calls.length i w) (.ext 0, impl_linesOk_O2 false w) (.ret, impl_linesOk_O2 false w)
    (by rw [impl_linesOk_round2, lt_self]; rfl) rfl rfl
    (fun i x hx hi => by
      have := call_cost (List.mem_of_getElem? hx)
      rw [impl_linesOk_round2, lt_t hi, idx_nat hx]
      simp only [br_t, qb_s, impl_in_t, impl_ClientOk_t x.client (by omega) (by omega)]
      rw [wrap_succ (by omega), wrap_id (by omega) (by omega)]
      unfold inR
      cases (decide (0 ≤ x.letter) && decide (x.letter ≤ (w.letters.length : Int) - 1)) <;> cases clientOk x.client <;> rfl) N (by omega)))).trans ?_
  unfold linesOk
  cases hc : w.calls.all (fun c => inR c.letter 0 ((w.letters.length : Int) - 1) && clientOk c.client) with
  | false => rfl
  | true =>
    simp only [if_true, isRetE_e, isExt_e, br_t, br_f, Bool.true_and]
    refine (qb_run (impl_linesOk_L8_if (lp_all w.talks (fun t => inR t.host 0 ((w.hosts.length : Int) - 1) && serverOk t.server) (fun i => impl_linesOk_S8 false false w.talks w.talks.length i w) (.ext 2, impl_linesOk_O8 false w) (.ret, impl_linesOk_O8 false w)
      (by rw [impl_linesOk_round8, lt_self]; rfl) rfl rfl
      (fun i x hx hi => by
        have := talk_cost (List.mem_of_getElem? hx)
        rw [impl_linesOk_round8, lt_t hi, idx_nat hx]
        simp only [br_t, qb_s, impl_in_t, impl_ServerOk_t x.server (by omega) (by omega) (by omega) (by omega)]
        rw [wrap_succ (by omega), wrap_id (by omega) (by omega)]
        unfold inR
        cases (decide (0 ≤ x.host) && decide (x.host ≤ (w.hosts.length : Int) - 1)) <;> cases serverOk x.server <;> rfl) N (by omega)))).trans ?_
    cases ht : w.talks.all (fun t => inR t.host 0 ((w.hosts.length : Int) - 1) && serverOk t.server) with
    | false => rfl
    | true =>
      simp only [if_true, isRetE_e, isExt_e, br_t, br_f, Bool.true_and]
      cases decide ((w.calls.length : Int) ≤ 12) <;> rfl

theorem spec_WorldOk_t (w : WorldD) (hw : w.cost ≤ 900000000) : spec_WorldOk_T w = some (worldOk w) := by
  have hw0 := hw
  rw [world_cost] at hw
  have hkl := Term.costs_len w.known
  refine spec_WorldOk_of (w.known.length + w.letters.length + w.told.length + 1) w ?_
  unfold spec_WorldOk_R
  generalize hN : w.known.length + w.letters.length + w.told.length + 1 = N
  have h1 : spec_WorldOk_L4 N N false 0 w = _ := spec_WorldOk_L4_if (lp_all w.known Term.ok (fun i => spec_WorldOk_S4 false i w) (.ext 0, spec_WorldOk_O4 false w) (.ret, spec_WorldOk_O4 false w)
    (by rw [spec_WorldOk_round4, lt_self]; rfl) rfl rfl
    (fun i x hx hi => by
      have := Term.costs_mem (List.mem_of_getElem? hx)
      rw [spec_WorldOk_round4, lt_t hi, idx_nat hx]
      simp only [br_t, qb_s, spec_TermOk_t x (by omega)]
      rw [wrap_succ (by omega)]
      cases x.ok <;> rfl) N (by omega))
  have h2 : spec_WorldOk_L9 N N false 0 w = _ := spec_WorldOk_L9_if (lp_all w.letters letterOk (fun i => spec_WorldOk_S9 false i w) (.ext 2, spec_WorldOk_O9 false w) (.ret, spec_WorldOk_O9 false w)
    (by rw [spec_WorldOk_round9, lt_self]; rfl) rfl rfl
    (fun i x hx hi => by
      have := letter_cost (List.mem_of_getElem? hx)
      rw [spec_WorldOk_round9, lt_t hi, idx_nat hx]
      simp only [br_t, qb_s, spec_LetterOk_t x (by omega)]
      rw [wrap_succ (by omega)]
      cases letterOk x <;> rfl) N (by omega))
  have h3 : spec_WorldOk_L14 N N false 0 w = _ := spec_WorldOk_L14_if (lp_allPre w.told (fun pre n => isAtom n && (match pre.getLast? with | none => true | some y => decide (y < n))) (fun i => spec_WorldOk_S14 false i w) (.ext 4, spec_WorldOk_O14 false w) (.ret, spec_WorldOk_O14 false w)
    (by rw [spec_WorldOk_round14, lt_self]; rfl) rfl rfl
    (fun i x hx hi => by
      rw [spec_WorldOk_round14, lt_t hi, idx_nat hx]
      simp only [br_t, qb_s, spec_l1In_t]
      rw [wrap_succ (by omega), show (decide (0 ≤ x) && decide (x ≤ 1000000)) = isAtom x from rfl]
      cases isAtom x with
      | false => simp [br]
      | true =>
        cases i with
        | zero => rfl
        | succ j =>
          obtain ⟨y, hy⟩ : ∃ y, w.told[j]? = some y := ⟨w.told[j]'(by omega), by simp⟩
          rw [show decide (((j + 1 : Nat) : Int) > 0) = true from decide_eq_true (by omega), wrap_id (by omega) (by omega), show (((j + 1 : Nat) : Int) - 1) = ((j : Nat) : Int) by omega, idx_nat hy, take_last hy]
          simp only [Bool.not_true, br_f, br_t, qb_s, Bool.true_and]
          by_cases h : y < x
          · have : ¬ (y ≥ x) := by omega
            simp [h, this, br]
          · have : y ≥ x := by omega
            simp [h, this, br]) N (by omega))
  simp only [spec_l1In_t, qb_s, spec_CacheOk_t w.cache (by omega), spec_l13Hosts_t w.hosts (by omega), h1]
  unfold worldOk inR isTime toldOk
  have g1 : decide ((w.known.length : Int) > 300) = !decide ((w.known.length : Int) ≤ 300) := by by_cases h : (w.known.length : Int) ≤ 300 <;> simp [h] <;> omega
  have g2 : decide ((w.letters.length : Int) > 30) = !decide ((w.letters.length : Int) ≤ 30) := by by_cases h : (w.letters.length : Int) ≤ 30 <;> simp [h] <;> omega
  have g3 : decide ((w.book.size : Int) > 12000) = !decide ((w.book.size : Int) ≤ 12000) := by by_cases h : (w.book.size : Int) ≤ 12000 <;> simp [h] <;> omega
  rw [g1, g2, g3]
  cases (decide (0 ≤ w.time) && decide (w.time ≤ 100000)); · rfl
  cases (decide (1000 ≤ w.fresh) && decide (w.fresh ≤ 999990)); · rfl
  cases decide ((w.known.length : Int) ≤ 300); · rfl
  cases hc : cacheOk w.cache; · simp [br]
  cases hh : hostsOk w.hosts; · simp [br]
  cases decide ((w.letters.length : Int) ≤ 30); · simp [br]
  cases decide ((w.book.size : Int) ≤ 12000); · simp [br]
  cases (decide (0 ≤ w.sure) && decide (w.sure ≤ (w.book.size : Int))); · simp [br]
  cases hk : w.known.all Term.ok; · rfl
  simp only [Bool.not_true, br_f, if_true, isRetE_e, isExt_e, br_t, h2, qb_s]
  cases hl : w.letters.all letterOk; · rfl
  simp only [if_true, isRetE_e, isExt_e, br_t, br_f, h3, qb_s]
  generalize allPre (fun pre n => isAtom n && (match pre.getLast? with | none => true | some y => decide (y < n))) [] w.told = b
  cases b
  · simp only [Bool.false_eq_true, if_false, isRetE_r, br_t, Bool.and_false]
  · simp only [if_true, isRetE_e, isExt_e, br_t, br_f, spec_l13Open_t w hw0, qb_s, Bool.true_and, Bool.and_true]

theorem IndexFunc_WorldOk_1_t (a : List Term)  (hl : a.length < 4611686018427387904) (ha : ∀ x ∈ a, x.cost ≤ 900000000) : slices_IndexFunc_impl_Term_impl_Term_T a (.c (.fn 76 [])) = some (idxOf (fun x : Term => !x.ok) a) := by
  refine IndexFunc_WorldOk_1_of (a.length + 1) a  ?_
  unfold IndexFunc_WorldOk_1_R
  have hloop := lp_at (P := Tryz.prog) (cfg := cfg) (T := RN) (n := a.length + 1) (d := 5) (f := 159) (r := 2) (na := 0) a (fun x : Term => !x.ok) (fun i => IndexFunc_WorldOk_1_S2 false a  0 a.length i) (.ext 0, IndexFunc_WorldOk_1_O2 0) (fun i => (.ret, IndexFunc_WorldOk_1_O2 i))
    (by rw [IndexFunc_WorldOk_1_round2, lt_self]; rfl) rfl (fun _ => rfl)
    (fun i x hx hi => by
      have hm := List.mem_of_getElem? hx
      rw [IndexFunc_WorldOk_1_round2, lt_t hi, idx_nat hx]
      simp only [br_t, qb_s, impl_TermOk_t x (by have := ha x hm; omega)]
      rw [wrap_succ (by omega)]
      cases x.ok <;> rfl) (a.length + 1) (by omega)
  unfold idxOf
  cases h : a.findIdx? (fun x : Term => !x.ok) with
  | none => rw [h] at hloop; exact (qb_run (IndexFunc_WorldOk_1_L2_of hloop)).trans rfl
  | some i => rw [h] at hloop; exact (qb_run (IndexFunc_WorldOk_1_L2_of hloop)).trans rfl

theorem ContainsFunc_WorldOk_1_t (a : List Term)  (hl : a.length < 4611686018427387904) (ha : ∀ x ∈ a, x.cost ≤ 900000000) : slices_ContainsFunc_impl_Term_impl_Term_T a (.c (.fn 76 [])) = some (a.any (fun x : Term => !x.ok)) := by
  refine ContainsFunc_WorldOk_1_of 0 a  ?_
  unfold ContainsFunc_WorldOk_1_R
  rw [IndexFunc_WorldOk_1_t a  hl ha, qb_s, idxOf_ge]


theorem IndexFunc_WorldOk_2_t (a : List Letter)  (hl : a.length < 4611686018427387904) (ha : ∀ x ∈ a, x.domain.size ≤ 900000000) : slices_IndexFunc_impl_Letter_impl_Letter_T a (.c (.fn 81 [])) = some (idxOf (fun x => !letterOk x) a) := by
  refine IndexFunc_WorldOk_2_of (a.length + 1) a  ?_
  unfold IndexFunc_WorldOk_2_R
  have hloop := lp_at (P := Tryz.prog) (cfg := cfg) (T := RN) (n := a.length + 1) (d := 5) (f := 165) (r := 2) (na := 0) a (fun x => !letterOk x) (fun i => IndexFunc_WorldOk_2_S2 false a  0 a.length i) (.ext 0, IndexFunc_WorldOk_2_O2 0) (fun i => (.ret, IndexFunc_WorldOk_2_O2 i))
    (by rw [IndexFunc_WorldOk_2_round2, lt_self]; rfl) rfl (fun _ => rfl)
    (fun i x hx hi => by
      have hm := List.mem_of_getElem? hx
      rw [IndexFunc_WorldOk_2_round2, lt_t hi, idx_nat hx]
      simp only [br_t, qb_s, impl_LetterOk_t x (ha x hm)]
      rw [wrap_succ (by omega)]
      cases letterOk x <;> rfl) (a.length + 1) (by omega)
  unfold idxOf
  cases h : a.findIdx? (fun x => !letterOk x) with
  | none => rw [h] at hloop; exact (qb_run (IndexFunc_WorldOk_2_L2_of hloop)).trans rfl
  | some i => rw [h] at hloop; exact (qb_run (IndexFunc_WorldOk_2_L2_of hloop)).trans rfl

theorem ContainsFunc_WorldOk_2_t (a : List Letter)  (hl : a.length < 4611686018427387904) (ha : ∀ x ∈ a, x.domain.size ≤ 900000000) : slices_ContainsFunc_impl_Letter_impl_Letter_T a (.c (.fn 81 [])) = some (a.any (fun x => !letterOk x)) := by
  refine ContainsFunc_WorldOk_2_of 0 a  ?_
  unfold ContainsFunc_WorldOk_2_R
  rw [IndexFunc_WorldOk_2_t a  hl ha, qb_s, idxOf_ge]


theorem impl_WorldOk_t (w : WorldD) (hw : w.cost ≤ 900000000) : impl_WorldOk_T w = some (worldOk w) := by
  have hw0 := hw
  rw [world_cost] at hw
  have hkl := Term.costs_len w.known
  have a1 : (w.known.any fun x : Term => !x.ok) = !w.known.all Term.ok := by rw [List.all_eq_not_any_not]; simp
  have a2 : (w.letters.any fun x => !letterOk x) = !w.letters.all letterOk := by rw [List.all_eq_not_any_not]; simp
  refine impl_WorldOk_of 0 w ?_
  unfold impl_WorldOk_R
  simp only [impl_isTime_t, impl_in_t, qb_s, impl_CacheOk_t w.cache (by omega), impl_hostsOk_t w.hosts (by omega), impl_linesOk_t w hw0, impl_toldOk_t w.told (by omega),
    ContainsFunc_WorldOk_1_t w.known (by omega) (fun x hx => by have := Term.costs_mem hx; omega), ContainsFunc_WorldOk_2_t w.letters (by omega) (fun x hx => by have := letter_cost hx; omega), a1, a2]
  unfold worldOk inR
  have g1 : decide ((w.known.length : Int) > 300) = !decide ((w.known.length : Int) ≤ 300) := by by_cases h : (w.known.length : Int) ≤ 300 <;> simp [h] <;> omega
  have g2 : decide ((w.letters.length : Int) > 30) = !decide ((w.letters.length : Int) ≤ 30) := by by_cases h : (w.letters.length : Int) ≤ 30 <;> simp [h] <;> omega
  rw [g1, g2]
  cases isTime w.time; · rfl
  cases (decide (1000 ≤ w.fresh) && decide (w.fresh ≤ 999990)); · rfl
  cases decide ((w.known.length : Int) ≤ 300); · rfl
  cases w.known.all Term.ok; · rfl
  cases cacheOk w.cache; · rfl
  cases hostsOk w.hosts; · rfl
  cases decide ((w.letters.length : Int) ≤ 30); · rfl
  cases w.letters.all letterOk; · rfl
  cases decide ((w.book.size : Int) ≤ 12000); · rfl
  cases (decide (0 ≤ w.sure) && decide (w.sure ≤ (w.book.size : Int))); · rfl
  cases linesOk w; · rfl
  cases toldOk w.told <;> rfl

end Go.Proofs.YtoebfbhcbpiheaaGreatDoor
