/-
  FnExactGreeting: the law answers true.
-/
import Derived.Test.YthhgnkogjccceaaHelp
import Derived.OpenShut
import Derived.WalkKit
import Derived.ProofKit
namespace Go.Proofs.Ythhgnkogjccceaa.fnExactGreeting
open Go.Vm Go.ChangeShapes Go.WideShapes Go.ChangeAt Go.RowKit
set_option linter.unusedVariables false
set_option linter.unusedSimpArgs false

theorem mark (n q : Nat) (hq : 0 < q) : lp Try.prog cfg RN n 3 45 2 0 q ⟨frOf [(0, .sl true .term []), (1, .int 1), (5, .int 0)], hpIds []⟩ = some (.ext 0, ⟨frOf [(1, .int 1)], hpIds []⟩) := by
  obtain ⟨q, rfl⟩ : ∃ q', q = q' + 1 := ⟨q - 1, by omega⟩
  refine lp_out ?_ rfl
  rw [laws_markTermS_round2_3]
  rfl

theorem held : RN 46 [.sl false .term [], .int 1] [] = some (.int 1, [], []) := by
  refine rn_of_resid (n := 1) ?_
  rw [laws_heldTermS_res]
  have h : lp Try.prog cfg RN 1 5 46 2 0 1 ⟨frOf [(0, .sl false .term []), (1, .int 1), (4, .int 0), (5, .int 0)], hpIds []⟩ = some (.ext 0, ⟨frOf [(1, .int 1), (4, .int 0)], hpIds []⟩) := by
    refine lp_out ?_ rfl
    rw [laws_heldTermS_round2]
    rfl
  exact (qb_run h).trans rfl

theorem law : RN 8 [] [] = some (.bool true, [], []) := by
  refine rn_of_resid (n := 1) ?_
  rw [laws_FnExactGreeting_res]
  have h1 := pres_f (eqTerm_rn ⟨2, 0, ⟨#[50, 50, 48]⟩, []⟩ (by decide) ⟨2, 0, ⟨#[50, 50, 48]⟩, []⟩)
  have h2 := pres_f held
  have h3 := mark 1 1 (by omega)
  simp only [Term.cells, V.ag, List.map_cons, List.map_nil] at h1
  rw [h1]
  refine (qb_run (v := V.bool true) (by simp)).trans ?_
  refine (qb_run rfl).trans ?_
  simp only [Bool.not_true, br]
  refine (qb_run h3).trans ?_
  simp only [h1, h2]
  rfl

set_option linter.unusedVariables false

theorem own : ownKnob Try.prog.godebug = none := by kernel_rfl
theorem laid : laidOutB Try.prog = true := by kernel_rfl

theorem contract (H : Type) (enc : TypeId × Value → H) (W : World) (base : Nat) (args : Array Value) (ds gs : List (DataW H)) (before : List MemPlace)
    (hval : ∀ (j : Nat) t v, Try.f8.params[j]? = some t → args[j]? = some v → Value.okWide Try.prog W .any base t v)
    (hW : DataW.Whole enc Try.prog Try.f8.params.toList Rows.fnExactGreetingSpec.vars false W args.toList ds gs before) :
    Calls Try.prog 8 args W fun e W' => ∃ v, e = .returned v ∧ Rows.fnExactGreetingSpec.post enc Try.prog Try.f8 false true false false W args v W' := by
  have hW' := hW
  obtain ⟨p, q, hA0, hV, rfl, hfz, hnd⟩ := hW
  have hA : DataW.TrodAll enc Try.prog W 0 (fun _ => true) true Try.f8.params.toList args.toList ds p := hA0
  rw [Try.params8] at hA hval
  obtain ⟨hargs, rfl, rfl⟩ := trodAll_nil hA
  obtain rfl : args = #[] := by cases args; simp_all
  obtain ⟨rfl, rfl⟩ := trodVars_none hV
  refine (law_calls (vs := []) progOK (law  ) rfl (by unfold VWs ; exact trivial)).mono fun e W1 ⟨he, a1, a2, a3, a4⟩ => ?_
  subst he
  exact ⟨_, rfl, law_post (tb := 4) rfl rfl rfl (by kernel_rfl) laid (by rw [Try.params8]; intro t ht; simp at ht) hW' a1 a2 a4⟩

set_option maxRecDepth 100000 in
theorem lifted (os : Os) (started : os.Started) (H : Type) (enc : TypeId × Value → H) :
    ReturnsInHanded {} Try.checked os 8 .any (Rows.fnExactGreetingSpec.pre6 enc Try.prog Try.f8 Rows.fnExactGreetingRow.domain false) (Rows.fnExactGreetingSpec.post enc Try.prog Try.f8 false true false false) := by
  refine returnsInHanded_of_change (C := Try.checked) own started (by kernel_rfl) Try.func8
    (ChangeSpec.witness6 (enc := enc) (C := Try.checked) false ⟨#[], #[], []⟩ 8 (by kernel_rfl) (by kernel_rfl) (by kernel_rfl) (by kernel_rfl)) ?_
  intro W base args ds gs before hval hW _ _
  exact contract H enc W base args ds gs before hval hW

theorem over : Rows.fnExactGreetingRow.holds Try.pinned (OpenSpec.ofChange Rows.fnExactGreetingSpec) :=
  OpenClaim.holds_of_wide 8 Try.f8 rfl rfl rfl rfl rfl rfl rfl ⟨rfl, rfl, rfl, rfl, rfl⟩ rfl rfl rfl rfl rfl (by kernel_rfl) Try.func8 (by kernel_rfl)
    (of_decide_eq_true (by kernel_rfl)) (by unfold Func.isWrapper; first | (rw [if_pos (by decide +kernel)]; kernel_rfl) | (rw [if_neg (by decide +kernel)]; exact ⟨rfl, rfl⟩))
    (fun os started H enc _ => lifted os started H enc)

theorem proved : Rows.FnExactGreetingSaid :=
  over

end Go.Proofs.Ythhgnkogjccceaa.fnExactGreeting

