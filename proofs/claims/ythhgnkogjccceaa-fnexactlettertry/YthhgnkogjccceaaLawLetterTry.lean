/-
  FnExactLetterTry: for every letter and time the law answers true, and its arguments read as before.
-/
import Derived.Test.YthhgnkogjccceaaS1
import Derived.OpenShut
import Derived.WalkKit
import Derived.ProofKit
namespace Go.Proofs.Ythhgnkogjccceaa.fnExactLetterTry
open Go.Vm Go.ChangeShapes Go.WideShapes Go.ChangeAt Go.RowKit
set_option linter.unusedVariables false
set_option linter.unusedSimpArgs false

theorem law (l : Letter) (q : Int) (b : ∃ n, ∀ f ∈ cellsOf .letter l, BdF n f) (b2 : ∃ n, BdF n (.int q)) : RN 7 [.ag (Letter.cells l), .int q] [] = some (.bool true, [], []) := by
  have hs : l.domain.size ≤ 9223372036854775807 := by
    obtain ⟨n, hb⟩ := b
    have h2 := hb (.str l.domain) (by simp [cellsOf, Letter.cells])
    cases n <;> exact h2
  refine rn_of_resid (n := 0) ?_
  have h1 := pres_tup2 (spec_LetterTry_rn l q hs)
  have h2 := pres_tup2 (impl_LetterTry_rn l q hs)
  have h3 := pres_f (eqLetter_rn (letterTry l q).1 (letterTry l q).1)
  simp only [Letter.cells, V.ag, List.map_cons, List.map_nil] at h1 h2 h3
  rw [laws_FnExactLetterTry_res, h1, h2]
  simp only [qb, fTup, List.length_cons, List.length_nil, Vm.part, asEl, lmapM, frzC, Option.bind_some, ofCells, unC, fBool, br_if, List.getElem?_cons_zero, List.getElem?_cons_succ, Nat.zero_add, h3]
  simp

set_option linter.unusedVariables false

theorem own : ownKnob Try.prog.godebug = none := by kernel_rfl
theorem laid : laidOutB Try.prog = true := by kernel_rfl

theorem contract (H : Type) (enc : TypeId × Value → H) (W : World) (base : Nat) (args : Array Value) (ds gs : List (DataW H)) (before : List MemPlace)
    (hval : ∀ (j : Nat) t v, Try.f7.params[j]? = some t → args[j]? = some v → Value.okWide Try.prog W .any base t v)
    (hW : DataW.Whole enc Try.prog Try.f7.params.toList Rows.fnExactLetterTrySpec.vars false W args.toList ds gs before) :
    Calls Try.prog 7 args W fun e W' => ∃ v, e = .returned v ∧ Rows.fnExactLetterTrySpec.post enc Try.prog Try.f7 false true false false W args v W' := by
  have hW' := hW
  obtain ⟨p, q, hA0, hV, rfl, hfz, hnd⟩ := hW
  have hA : DataW.TrodAll enc Try.prog W 0 (fun _ => true) true Try.f7.params.toList args.toList ds p := hA0
  rw [Try.params7] at hA hval
  obtain ⟨v0, vs0, d0, ds0, p0, q0, hargs, rfl, rfl, h0, r0⟩ := trodAll_cons hA
  obtain ⟨v1, vs1, d1, ds1, p1, q1, rfl, rfl, rfl, h1, r1⟩ := trodAll_cons r0
  obtain ⟨rfl, rfl, rfl⟩ := trodAll_nil r1
  obtain rfl : args = #[v0, v1] := by cases args; simp_all
  obtain ⟨rfl, rfl⟩ := trodVars_none hV
  obtain ⟨x0, e0, b0⟩ := rd_el (k := .letter) (h := hpOf .arg 0 []) (loc := fun _ => none) ksOk' (by kernel_rfl) (by kernel_rfl) (hval 0 23 v0 rfl rfl) h0
  obtain ⟨f1, ⟨x1, rfl⟩, e1, b1⟩ := rd_one (a := .int) (h := hpOf .arg 0 []) (loc := fun _ => none) ksOk' (by kernel_rfl) (by kernel_rfl) (hval 1 3 v1 rfl rfl) h1
  refine (law_calls (vs := [v0, v1]) progOK (law x0 x1 b0 b1) rfl (by unfold VWs VWs VWs ; exact ⟨e0, e1, trivial⟩)).mono fun e W1 ⟨he, a1, a2, a3, a4⟩ => ?_
  subst he
  exact ⟨_, rfl, law_post (tb := 4) rfl rfl rfl (by kernel_rfl) laid (by rw [Try.params7]; intro t ht; simp at ht; rcases ht with rfl | rfl <;> exact ⟨by kernel_rfl, of_decide_eq_true (by kernel_rfl)⟩) hW' a1 a2 a4⟩

set_option maxRecDepth 100000 in
theorem lifted (os : Os) (started : os.Started) (H : Type) (enc : TypeId × Value → H) :
    ReturnsInHanded {} Try.checked os 7 .any (Rows.fnExactLetterTrySpec.pre6 enc Try.prog Try.f7 Rows.fnExactLetterTryRow.domain false) (Rows.fnExactLetterTrySpec.post enc Try.prog Try.f7 false true false false) := by
  refine returnsInHanded_of_change (C := Try.checked) own started (by kernel_rfl) Try.func7
    (ChangeSpec.witness6 (enc := enc) (C := Try.checked) false ⟨#[], #[.agg #[.string ⟨#[]⟩, .int .i64 0, .int .i64 0, .int .i64 0, .int .i64 0], .int .i64 0], []⟩ 8 (by kernel_rfl) (by kernel_rfl) (by kernel_rfl) (by kernel_rfl)) ?_
  intro W base args ds gs before hval hW _ _
  exact contract H enc W base args ds gs before hval hW

theorem over : Rows.fnExactLetterTryRow.holds Try.pinned (OpenSpec.ofChange Rows.fnExactLetterTrySpec) :=
  OpenClaim.holds_of_wide 7 Try.f7 rfl rfl rfl rfl rfl rfl rfl ⟨rfl, rfl, rfl, rfl, rfl⟩ rfl rfl rfl rfl rfl (by kernel_rfl) Try.func7 (by kernel_rfl)
    (of_decide_eq_true (by kernel_rfl)) (by unfold Func.isWrapper; first | (rw [if_pos (by decide +kernel)]; kernel_rfl) | (rw [if_neg (by decide +kernel)]; exact ⟨rfl, rfl⟩))
    (fun os started H enc _ => lifted os started H enc)

theorem proved : Rows.FnExactLetterTrySaid :=
  over

end Go.Proofs.Ythhgnkogjccceaa.fnExactLetterTry
