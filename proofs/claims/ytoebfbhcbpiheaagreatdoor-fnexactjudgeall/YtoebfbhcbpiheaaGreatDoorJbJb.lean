/-
  What is judged of a world's book; all that is judged of a world.
-/
import Derived.Test.YtoebfbhcbpiheaaGreatDoorJbJd
import Derived.Test.YtoebfbhcbpiheaaGreatDoorJbPl
namespace Go.Proofs.YtoebfbhcbpiheaaGreatDoor
open Go.Vm
set_option linter.unusedVariables false
set_option linter.unusedSimpArgs false

theorem play_notes_len (w : WorldD) (hw : w.cost ≤ 900000000) : (play (notes w.book).1).length ≤ 900000001 := by
  rw [world_cost] at hw
  have h := play_inv (notes w.book).1 [] 0 (notes_dom w.book (by omega)) (by simp) (by simp)
  have h2 := notes_len w.book
  unfold play
  omega

theorem Equal_letters_t (a b : List Letter) (hl : a.length < 4611686018427387904) : slices_Equal_impl_Letter_impl_Letter_T a b = some (decide (a = b)) := by
  refine slices_Equal_impl_Letter_impl_Letter_of (a.length + 1) a b ?_
  unfold slices_Equal_impl_Letter_impl_Letter_R
  by_cases hlen : a.length = b.length
  · rw [show ((a.length : Int) != (b.length : Int)) = false by simp [hlen], br_f]
    refine (qb_run (slices_Equal_impl_Letter_impl_Letter_L4_if (lp_eq' a b hlen (fun i => slices_Equal_impl_Letter_impl_Letter_S4 false a false b false a.length i) (.ext 0, slices_Equal_impl_Letter_impl_Letter_O4 false) (.ret, slices_Equal_impl_Letter_impl_Letter_O4 false)
      (by rw [slices_Equal_impl_Letter_impl_Letter_round4, lt_self]; rfl) rfl rfl
      (fun i x y hx hy hi => by
        rw [slices_Equal_impl_Letter_impl_Letter_round4, lt_t hi, idx_nat hx, idx_nat hy]
        simp only [br_t, qb_s, letter_beq]
        rw [wrap_succ (by omega)]
        by_cases he : x = y <;> simp [he, br_t, br_f]) (a.length + 1) (by omega)))).trans ?_
    by_cases hab : a = b <;> simp [hab, isRetE_r, isRetE_e, isExt_e, br_t, br_f]
  · rw [show ((a.length : Int) != (b.length : Int)) = true by simp; omega, br_t]
    simp [len_ne hlen]
theorem spec_JudgeBook_t (w : WorldD) (hw : w.cost ≤ 900000000) : spec_JudgeBook_T w = some (judgeBook w) := by
  have hw' := hw
  rw [world_cost] at hw'
  have hpl := play_notes_len w hw
  refine spec_JudgeBook_of ((play (notes w.book).1).length + 1) w ?_
  unfold spec_JudgeBook_R judgeBook
  rw [spec_WorldOk_t w hw, qb_s]
  cases worldOk w with
  | false => rfl
  | true =>
    rw [Bool.not_true, br_f, spec_Notes_t w.book (by omega), qb_s]
    have hlen := notes_len w.book
    rw [spec_Play_t (notes w.book).1 (by omega) (notes_dom w.book (by omega)), qb_s]
    simp only [bne_int]
    generalize play (notes w.book).1 = a at hpl
    by_cases hu : ((notes w.book).2 : Int) = (w.book.size : Int)
    case neg => simp only [hu, decide_false, Bool.not_false, br_t, Bool.and_false, Bool.false_and]
    simp only [hu, decide_true, Bool.not_true, br_f, Bool.true_and]
    by_cases hl : a.length = w.letters.length
    case neg => rw [show decide ((a.length : Int) = (w.letters.length : Int)) = false from decide_eq_false (by omega), Bool.not_false, br_t, decide_eq_false (fun e => hl (by rw [e]))]
    rw [show decide ((a.length : Int) = (w.letters.length : Int)) = true from decide_eq_true (by omega), Bool.not_true, br_f]
    refine (qb_run (spec_JudgeBook_L8_if (lp_eq' a w.letters hl (fun i => spec_JudgeBook_S8 false false a i w) (.ext 0, spec_JudgeBook_O8 false) (.ret, spec_JudgeBook_O8 false)
      (by rw [spec_JudgeBook_round8, lt_self]; rfl) rfl rfl
      (fun i x y hx hy hi => by
        rw [spec_JudgeBook_round8, lt_t hi, idx_nat hx, idx_nat hy]
        simp only [br_t, qb_s, letter_beq]
        rw [wrap_succ (by omega)]
        by_cases he : x = y <;> simp [he, br_t, br_f]) (a.length + 1) (by omega)))).trans ?_
    by_cases hab : a = w.letters <;> simp [hab, isRetE_r, isRetE_e, isExt_e, br_t, br_f]
theorem impl_JudgeBook_t (w : WorldD) (hw : w.cost ≤ 900000000) : impl_JudgeBook_T w = some (judgeBook w) := by
  have hw' := hw
  rw [world_cost] at hw'
  have hpl := play_notes_len w hw
  have hlen := notes_len w.book
  refine impl_JudgeBook_of 0 w ?_
  unfold impl_JudgeBook_R judgeBook
  rw [impl_Notes_t w.book (by omega), qb_s, impl_WorldOk_t w hw, qb_s, impl_Play_t (notes w.book).1 (by omega) (notes_dom w.book (by omega)), qb_s]
  rw [Equal_letters_t _ w.letters (by omega), qb_s]
  simp only [beq_int]
  by_cases hu : ((notes w.book).2 : Int) = (w.book.size : Int)
  · simp only [hu, decide_true, br_t, Bool.and_true]
    cases worldOk w <;> rfl
  · simp only [hu, decide_false, br_f, Bool.and_false, Bool.false_and]
    cases worldOk w <;> rfl
theorem spec_JudgeAll_t (w : WorldD) (hw : w.cost ≤ 900000000) : spec_JudgeAll_T w = some (judgeAll w) := by
  refine spec_JudgeAll_of 0 w ?_
  unfold spec_JudgeAll_R judgeAll
  simp only [spec_JudgeSecret_t w hw, spec_JudgeHeld_t w hw, spec_JudgeTaken_t w hw, spec_JudgeBook_t w hw, qb_s]
  cases judgeSecret w <;> cases judgeHeld w <;> cases judgeTaken w <;> rfl
theorem impl_JudgeAll_t (w : WorldD) (hw : w.cost ≤ 900000000) : impl_JudgeAll_T w = some (judgeAll w) := by
  refine impl_JudgeAll_of 0 w ?_
  unfold impl_JudgeAll_R judgeAll
  simp only [impl_JudgeSecret_t w hw, impl_JudgeHeld_t w hw, impl_JudgeTaken_t w hw, impl_JudgeBook_t w hw, qb_s]
  cases judgeSecret w <;> cases judgeHeld w <;> cases judgeTaken w <;> rfl
end Go.Proofs.YtoebfbhcbpiheaaGreatDoor
