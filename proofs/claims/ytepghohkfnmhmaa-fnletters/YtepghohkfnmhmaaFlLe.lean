/-
  Letters: what is right, trying, ending, spent.
-/
import Derived.Test.YtepghohkfnmhmaaFlTm
import Derived.Test.YtepghohkfnmhmaaVm6
namespace Go.Proofs.Ytepghohkfnmhmaa
open Go.Vm
set_option linter.unusedVariables false
set_option linter.unusedSimpArgs false

theorem spec_l6Domain_t (s : ByteArray) (hs : s.size ≤ 900000000) : spec_l6Domain_T s = some (domOk s) := by
  refine spec_l6Domain_of (s.size + 1) s ?_
  unfold spec_l6Domain_R
  have hlen := bytes_len s
  refine (qb_run (spec_l6Domain_L2_if (lp_all s.data.toList isLow (fun i => spec_l6Domain_S2 s false i) (.ext 0, spec_l6Domain_O2 s false) (.ret, spec_l6Domain_O2 s false)
    (by rw [spec_l6Domain_round2, hlen, lt_self]; rfl) rfl rfl
    (fun i b hx hi => by
      rw [hlen] at hi
      rw [spec_l6Domain_round2, lt_t hi, byteAt_nat (bytes_get hx), wrap_succ (by omega)]
      simp only [br_t, qb_s]
      unfold isLow
      by_cases h1 : b.toNat < 97
      · have : ((b.toNat : Int) < 97) := by omega
        simp [br, h1, this]
      · have h3 : ¬ ((b.toNat : Int) < 97) := by omega
        by_cases h2 : b.toNat > 122
        · have : ((b.toNat : Int) > 122) := by omega
          simp [br, h1, h2, h3, this]
        · have h4 : ¬ ((b.toNat : Int) > 122) := by omega
          simp [br, h1, h2, h3, h4]) (s.size + 1) (by omega)))).trans ?_
  unfold domOk
  cases s.data.toList.all isLow with
  | false => rfl
  | true =>
    simp only [if_true, isRetE_e, isExt_e, br_t, br_f, spec_l1In_t, qb_s, Bool.true_and]
    by_cases h1 : 1 ≤ s.size <;> by_cases h2 : s.size ≤ 10 <;> simp [h1, h2] <;> omega

theorem impl_domainOk_t (s : ByteArray) (hs : s.size ≤ 900000000) : impl_domainOk_T s = some (domOk s) := by
  refine impl_domainOk_of (s.size + 1) s ?_
  unfold impl_domainOk_R
  have hlen := bytes_len s
  refine (qb_run (impl_domainOk_L2_if (lp_all s.data.toList isLow (fun i => impl_domainOk_S2 s false s.size i) (.ext 0, impl_domainOk_O2 s false) (.ret, impl_domainOk_O2 s false)
    (by rw [impl_domainOk_round2, hlen, lt_self]; rfl) rfl rfl
    (fun i b hx hi => by
      rw [hlen] at hi
      rw [impl_domainOk_round2, lt_t hi, byteAt_nat (bytes_get hx), wrap_succ (by omega)]
      simp only [br_t, qb_s]
      unfold isLow
      by_cases h1 : b.toNat < 97
      · have : ((b.toNat : Int) < 97) := by omega
        simp [br, h1, this]
      · have h3 : ¬ ((b.toNat : Int) < 97) := by omega
        by_cases h2 : b.toNat > 122
        · have : ((b.toNat : Int) > 122) := by omega
          simp [br, h1, h2, h3, this]
        · have h4 : ¬ ((b.toNat : Int) > 122) := by omega
          simp [br, h1, h2, h3, h4]) (s.size + 1) (by omega)))).trans ?_
  unfold domOk
  cases s.data.toList.all isLow with
  | false => rfl
  | true =>
    simp only [if_true, isRetE_e, isExt_e, br_t, br_f, impl_in_t, qb_s, Bool.true_and]
    by_cases h1 : 1 ≤ s.size <;> by_cases h2 : s.size ≤ 10 <;> simp [h1, h2] <;> omega

theorem spec_LetterOk_t (l : Letter) (hs : l.domain.size ≤ 900000000) : spec_LetterOk_T l = some (letterOk l) := by
  refine spec_LetterOk_of 0 l ?_
  unfold spec_LetterOk_R
  simp only [spec_l6Domain_t l.domain hs, spec_l1In_t, qb_s]
  unfold letterOk isAtom isTime
  cases domOk l.domain <;> simp [br_if]
  by_cases h1 : 0 ≤ l.body <;> by_cases h2 : l.body ≤ 1000000 <;> by_cases h3 : 1 ≤ l.state <;> by_cases h4 : l.state ≤ 3 <;> by_cases h5 : 0 ≤ l.tries <;> by_cases h6 : l.tries ≤ 4 <;> simp [h1, h2, h3, h4, h5, h6]

theorem impl_LetterOk_t (l : Letter) (hs : l.domain.size ≤ 900000000) : impl_LetterOk_T l = some (letterOk l) := by
  refine impl_LetterOk_of 0 l ?_
  unfold impl_LetterOk_R
  simp only [impl_domainOk_t l.domain hs, impl_in_t, impl_isAtom_t, impl_isTime_t, qb_s]
  unfold letterOk
  cases domOk l.domain <;> simp [br_if]
  by_cases h1 : isAtom l.body = true <;> by_cases h3 : 1 ≤ l.state <;> by_cases h4 : l.state ≤ 3 <;> by_cases h5 : 0 ≤ l.tries <;> by_cases h6 : l.tries ≤ 4 <;> simp [h1, h3, h4, h5, h6]

theorem spec_l1Min_t (a b : Int) : spec_l1Min_T a b = some (if a < b then a else b) := by
  refine spec_l1Min_of 0 a b ?_
  unfold spec_l1Min_R
  by_cases h : a < b
  · rw [decide_eq_true h, if_pos h]; rfl
  · rw [decide_eq_false h, if_neg h]; rfl

theorem spec_LetterTry_t (l : Letter) (now : Int) (hs : l.domain.size ≤ 900000000) : spec_LetterTry_T l now = some ((letterTry l now).1, (letterTry l now).2, ()) := by
  refine spec_LetterTry_of 0 l now ?_
  unfold spec_LetterTry_R letterTry isTime
  simp only [spec_LetterOk_t l hs, spec_l1In_t, spec_l1Min_t, qb_s, br_if]
  cases hok : letterOk l with
  | false => simp
  | true =>
    obtain ⟨_, _, _, _, t0, t4, n0, n1⟩ := letterOk_spec hok
    by_cases h1 : l.state = 1
    · by_cases h2 : l.next ≤ now
      · by_cases h3 : now ≤ 100000
        · by_cases h4 : l.tries = 4
          · simp [h1, h2, h3, h4]
          · obtain ⟨p1, p2, p3, p4, p5⟩ := try_pow t0 (by omega)
            rw [p1, p2, p3, wrap_id (by omega) (by omega)]
            have h5 : l.tries < 4 := by omega
            have h6 : 0 ≤ now := by omega
            by_cases h7 : 100000 < now + 10 * 2 ^ (l.tries + 1).toNat
            · have h8 : min 100000 (now + 10 * 2 ^ (l.tries + 1).toNat) = 100000 := by omega
              simp [h1, h2, h3, h4, h5, h6, h7, h8, qb_s]
            · have h8 : min 100000 (now + 10 * 2 ^ (l.tries + 1).toNat) = now + 10 * 2 ^ (l.tries + 1).toNat := by omega
              simp [h1, h2, h3, h4, h5, h6, h7, h8, qb_s]
        · simp [h1, h2, h3]
      · simp [h1, h2]
    · simp [h1]

theorem spec_LetterEnd_t (l : Letter) (g : Bool) : spec_LetterEnd_T l g = some (letterEnd l g) := by
  refine spec_LetterEnd_of 0 l g ?_
  unfold spec_LetterEnd_R letterEnd
  rw [bne_int]
  by_cases h : l.state = 1
  · rw [decide_eq_true h, if_pos h]; cases g <;> rfl
  · rw [decide_eq_false h, if_neg h]; rfl
theorem impl_LetterTry_t (l : Letter) (now : Int) (hs : l.domain.size ≤ 900000000) : impl_LetterTry_T l now = some ((letterTry l now).1, (letterTry l now).2, ()) := by
  refine impl_LetterTry_of 0 l now ?_
  unfold impl_LetterTry_R letterTry isTime
  simp only [impl_LetterOk_t l hs, impl_isTime_t, isTime, qb_s, br_if, cond_false]
  cases hok : letterOk l with
  | false => simp
  | true =>
    obtain ⟨_, _, _, _, t0, t4, n0, n1⟩ := letterOk_spec hok
    by_cases h1 : l.state = 1
    · by_cases h6 : 0 ≤ now
      · by_cases h3 : now ≤ 100000
        · by_cases h2 : l.next ≤ now
          · have h2' : ¬ now < l.next := by omega
            by_cases h4 : l.tries = 4
            · simp [h1, h2, h3, h4, h6, h2']
            · obtain ⟨p1, p2, p3, p4, p5⟩ := try_pow t0 (by omega)
              rw [p1, p2, p3, wrap_id (by omega) (by omega)]
              have h5 : l.tries < 4 := by omega
              by_cases h7 : now + 10 * 2 ^ (l.tries + 1).toNat < 100000
              · have h8 : min 100000 (now + 10 * 2 ^ (l.tries + 1).toNat) = now + 10 * 2 ^ (l.tries + 1).toNat := by omega
                simp [h1, h2, h2', h3, h4, h5, h6, h7, h8, qb_s]
              · have h8 : min 100000 (now + 10 * 2 ^ (l.tries + 1).toNat) = 100000 := by omega
                simp [h1, h2, h2', h3, h4, h5, h6, h7, h8, qb_s]
          · have h2' : now < l.next := by omega
            simp [h1, h2, h3, h6, h2']
        · simp [h1, h3, h6]
      · simp [h1, h6]
    · simp [h1]

theorem impl_LetterEnd_t (l : Letter) (g : Bool) : impl_LetterEnd_T l g = some (letterEnd l g) := by
  refine impl_LetterEnd_of 0 l g ?_
  unfold impl_LetterEnd_R letterEnd
  rw [bne_int]
  by_cases h : l.state = 1
  · rw [decide_eq_true h, if_pos h]; cases g <;> rfl
  · rw [decide_eq_false h, if_neg h]; rfl
def spent (l : Letter) (now : Int) : Bool := decide (l.state = 1) && (decide (l.tries = 4) && decide (l.next ≤ now))

theorem spec_Spent_t (l : Letter) (now : Int) : spec_Spent_T l now = some (spent l now) := by
  refine spec_Spent_of 0 l now ?_
  unfold spec_Spent_R spent
  simp only [beq_int]
  cases decide (l.state = 1) <;> cases decide (l.tries = 4) <;> rfl
theorem impl_Spent_t (l : Letter) (now : Int) : impl_Spent_T l now = some (spent l now) := by
  refine impl_Spent_of 0 l now ?_
  unfold impl_Spent_R spent
  simp only [beq_int]
  cases decide (l.state = 1) <;> cases decide (l.tries = 4) <;> rfl
theorem letterTry_dom (l : Letter) (now : Int) : (letterTry l now).1.domain = l.domain := by
  unfold letterTry
  split <;> rfl

theorem letterEnd_dom (l : Letter) (g : Bool) : (letterEnd l g).domain = l.domain := by
  unfold letterEnd
  split <;> rfl

theorem letterEnd_again (l : Letter) (g g2 : Bool) : letterEnd (letterEnd l g) g2 = letterEnd l g := by
  by_cases h : l.state = 1
  · have e : letterEnd l g = { l with state := if g = true then 2 else 3 } := by unfold letterEnd; rw [if_pos h]
    rw [e]
    unfold letterEnd
    rw [if_neg]
    cases g <;> simp
  · have e : letterEnd l g = l := by unfold letterEnd; rw [if_neg h]
    rw [e]
    unfold letterEnd
    rw [if_neg h]

theorem letterTry_no {l : Letter} {now : Int} (h : (letterTry l now).2 = false) : (letterTry l now).1 = l := by
  unfold letterTry at h ⊢
  split
  · rename_i g; rw [if_pos g] at h; cases h
  · rfl

theorem letterTry_yes {l : Letter} {now : Int} (h : (letterTry l now).2 = true) : letterOk (letterTry l now).1 = true ∧ (letterTry l now).1.tries = l.tries + 1 ∧ 0 ≤ l.tries ∧ l.tries ≤ 4 ∧
    l.next ≤ (letterTry l now).1.next ∧ (now < (letterTry l now).1.next ∨ now = 100000) ∧ (letterTry l now).1.state = 1 := by
  unfold letterTry at h ⊢
  by_cases g : (letterOk l && decide (l.state = 1) && isTime now && decide (l.next ≤ now) && decide (l.tries < 4)) = true
  · rw [if_pos g]
    simp only [Bool.and_eq_true, decide_eq_true_eq] at g
    obtain ⟨⟨⟨⟨g1, g2⟩, g3⟩, g4⟩, g5⟩ := g
    obtain ⟨d, b, s0, s1, t0, t4, n0, n1⟩ := letterOk_spec g1
    obtain ⟨p1, p2, p3, p4, p5⟩ := try_pow t0 g5
    unfold isTime at g3
    simp only [Bool.and_eq_true, decide_eq_true_eq] at g3
    refine ⟨?_, rfl, t0, t4, ?_, ?_, g2⟩
    · unfold letterOk isTime
      simp only [Bool.and_eq_true, decide_eq_true_eq]
      refine ⟨⟨⟨⟨⟨⟨d, b⟩, s0⟩, s1⟩, ?_⟩, ?_⟩, ?_, ?_⟩ <;> (try dsimp only) <;> omega
    · dsimp only; omega
    · dsimp only; omega
  · rw [if_neg g] at h; cases h

end Go.Proofs.Ytepghohkfnmhmaa
