/-
  FnLetters: for every row of bytes the law answers true, and its argument reads as before.
-/
import Derived.Test.YtepghohkfnmhmaaFlLd
import Derived.OpenShut
import Derived.WalkKit
import Derived.ProofKit
namespace Go.Proofs.Ytepghohkfnmhmaa.fnLetters
open Go.Vm Go.ChangeShapes Go.WideShapes Go.ChangeAt Go.RowKit
set_option linter.unusedVariables false
set_option linter.unusedSimpArgs false

theorem big_t (code : List UInt8) : laws_big_T code = some (decide ((code.length : Int) > 1048576)) := laws_big_of 0 code rfl

theorem law (code : List UInt8) {t : Bool} (b : ∃ n, BdF n (.sl t .byte code)) : RN 3 [.sl false .byte code] [] = some (.bool true, [], []) := by
  refine rn_of_resid (n := 0) ((laws_FnLetters_res 0 code).trans ?_)
  unfold laws_FnLetters_R
  rw [big_t, qb_s]
  by_cases h : (code.length : Int) > 1048576
  · rw [decide_eq_true h]; rfl
  have hb : code.length ≤ 1048576 := by omega
  obtain ⟨l, now, e1, d1⟩ := spec_DrawLetterTry_t code hb
  obtain ⟨m, g, e2, d2⟩ := spec_DrawLetterEnd_t code hb
  obtain ⟨s, sn, e3, d3⟩ := spec_DrawSpent_t code hb
  obtain ⟨k, e4, d4⟩ := spec_DrawLetterOk_t code hb
  rw [decide_eq_false h, br_f, e1, qb_s]
  simp only [impl_LetterTry_t l now (show l.domain.size ≤ 900000000 by omega), spec_LetterTry_t l now (show l.domain.size ≤ 900000000 by omega), qb_s, e2, impl_LetterEnd_t, spec_LetterEnd_t, e3, e4, impl_Spent_t, spec_Spent_t,
    impl_LetterOk_t k (show k.domain.size ≤ 900000000 by omega), spec_LetterOk_t k (show k.domain.size ≤ 900000000 by omega), letterEnd_again, beq_ba, beq_int, decide_true, Bool.and_self, Bool.not_true, br_f, beq_self_eq_true,
    impl_LetterOk_t (letterTry l now).1 (show (letterTry l now).1.domain.size ≤ 900000000 by rw [letterTry_dom]; omega)]
  cases ho : (letterTry l now).2 with
  | false =>
    rw [letterTry_no ho]
    simp [br]
  | true =>
    obtain ⟨y1, y2, y3, y4, y5, y6, y7⟩ := letterTry_yes ho
    rw [y1, y2, wrap_id (by omega) (by omega), decide_eq_true (show (letterTry l now).1.next ≥ l.next from y5), y7]
    simp only [decide_true, br_t, br_f, Bool.not_true]
    rcases y6 with y6 | y6
    · rw [decide_eq_true (show (letterTry l now).1.next > now from y6)]; rfl
    · rw [y6, show decide ((100000 : Int) = 100000) = true from rfl]
      cases decide ((letterTry l 100000).1.next > 100000) <;> rfl

set_option linter.unusedVariables false

theorem own : ownKnob Try.prog.godebug = none := by kernel_rfl
theorem laid : laidOutB Try.prog = true := by kernel_rfl

set_option maxRecDepth 100000 in
theorem contract (H : Type) (enc : TypeId × Value → H) (W : World) (base : Nat) (args : Array Value) (ds gs : List (DataW H)) (before : List MemPlace)
    (hval : ∀ (j : Nat) t v, Try.f3.params[j]? = some t → args[j]? = some v → Value.okWide Try.prog W .any base t v)
    (hW : DataW.Whole enc Try.prog Try.f3.params.toList Rows.fnLettersSpec.vars false W args.toList ds gs before) :
    Calls Try.prog 3 args W fun e W' => ∃ v, e = .returned v ∧ Rows.fnLettersSpec.post enc Try.prog Try.f3 false true false false W args v W' := by
  have hW' := hW
  obtain ⟨p, q, hA0, hV, rfl, hfz, hnd⟩ := hW
  have hA : DataW.TrodAll enc Try.prog W 0 (fun _ => true) true Try.f3.params.toList args.toList ds p := hA0
  rw [Try.params3] at hA hval
  obtain ⟨v0, vs0, d0, ds0, p0, q0, hargs, rfl, rfl, h0, r0⟩ := trodAll_cons hA
  obtain ⟨rfl, rfl, rfl⟩ := trodAll_nil r0
  obtain rfl : args = #[v0] := by cases args; simp_all
  obtain ⟨rfl, rfl⟩ := trodVars_none hV
  obtain ⟨f0, ⟨t0, x0, rfl⟩, e0, b0⟩ := rd_one (a := .sl .byte) (h := hpOf .arg 0 []) (loc := fun _ => none) ksOk' (by kernel_rfl) (by kernel_rfl) (hval 0 22 v0 rfl rfl) h0
  have e0 := VW.loosen e0
  refine (law_calls (vs := [v0]) progOK (law x0 b0) rfl (by unfold VWs VWs ; exact ⟨e0, trivial⟩)).mono fun e W1 ⟨he, a1, a2, a3, a4⟩ => ?_
  subst he
  exact ⟨_, rfl, law_post (tb := 4) rfl rfl rfl (by kernel_rfl) laid (by rw [Try.params3]; intro t ht; simp at ht; subst ht; exact ⟨by kernel_rfl, of_decide_eq_true (by kernel_rfl)⟩) hW' a1 a2 a4⟩

set_option maxRecDepth 100000 in
theorem lifted (os : Os) (started : os.Started) (H : Type) (enc : TypeId × Value → H) :
    ReturnsInHanded {} Try.checked os 3 .any (Rows.fnLettersSpec.pre6 enc Try.prog Try.f3 Rows.fnLettersRow.domain false) (Rows.fnLettersSpec.post enc Try.prog Try.f3 false true false false) := by
  refine returnsInHanded_of_change (C := Try.checked) own started (by kernel_rfl) Try.func3
    (ChangeSpec.witness6 (enc := enc) (C := Try.checked) false ⟨#[], #[.slice none 0 0], []⟩ 8 (by kernel_rfl) (by kernel_rfl) (by kernel_rfl) (by kernel_rfl)) ?_
  intro W base args ds gs before hval hW _ _
  exact contract H enc W base args ds gs before hval hW

theorem over : Rows.fnLettersRow.holds Try.pinned (OpenSpec.ofChange Rows.fnLettersSpec) :=
  OpenClaim.holds_of_wide 3 Try.f3 rfl rfl rfl rfl rfl rfl rfl ⟨rfl, rfl, rfl, rfl, rfl⟩ rfl rfl rfl rfl rfl (by kernel_rfl) Try.func3 (by kernel_rfl)
    (of_decide_eq_true (by kernel_rfl)) (by unfold Func.isWrapper; first | (rw [if_pos (by decide +kernel)]; kernel_rfl) | (rw [if_neg (by decide +kernel)]; exact ⟨rfl, rfl⟩))
    (fun os started H enc _ => lifted os started H enc)

theorem proved : Rows.FnLettersSaid :=
  over

end Go.Proofs.Ytepghohkfnmhmaa.fnLetters

