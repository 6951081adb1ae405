/-
  FnExactLetterOk: for every letter the law answers true, and its argument reads as before.
-/
import Derived.Test.YthhgnkogjccceaaVmS1a
import Derived.OpenShut
import Derived.WalkKit
import Derived.ProofKit
namespace Go.Proofs.Ythhgnkogjccceaa.fnExactLetterOk
open Go.Vm Go.ChangeShapes Go.WideShapes Go.ChangeAt Go.RowKit

theorem law (l : Letter) (b : ∃ n, ∀ f ∈ cellsOf .letter l, BdF n f) : rn Try.prog cfg 4 [.ag (Letter.cells l)] [] = some (.bool true, [], []) := by
  have hs : l.domain.size ≤ 9223372036854775807 := by
    obtain ⟨n, hb⟩ := b
    have h1 : l.domain.size ≤ maxLen := by
      have h2 := hb (.str l.domain) (by simp [cellsOf, Letter.cells])
      cases n <;> exact h2
    simp only [maxLen] at h1
    omega
  refine rn_of_resid (n := 0) ?_
  rw [show resid Try.prog cfg RN 0 4 [.ag (Letter.cells l)] [] = (br (decide (IntKind.i64.wrap (1048576 - ↑l.domain.size) < 0)) (some (V.c (C.f (F.sc (Value.bool true))), [], []))
  (br (decide (IntKind.i64.wrap (1048576 - ↑l.domain.size) < 0)) (some (V.c (C.f (F.sc (Value.bool true))), [], []))
    (qb
      (pres RN 14
        [V.agg
            [C.f (F.sc (Value.string l.domain)), C.f (F.sc (Value.int IntKind.i64 l.body)),
              C.f (F.sc (Value.int IntKind.i64 l.state)), C.f (F.sc (Value.int IntKind.i64 l.tries)),
              C.f (F.sc (Value.int IntKind.i64 l.next))]])
      fun v =>
      qb (qb (unC v) fun y => fBool y) fun b =>
        qb
          (pres RN 15
            [V.agg
                [C.f (F.sc (Value.string l.domain)), C.f (F.sc (Value.int IntKind.i64 l.body)),
                  C.f (F.sc (Value.int IntKind.i64 l.state)), C.f (F.sc (Value.int IntKind.i64 l.tries)),
                  C.f (F.sc (Value.int IntKind.i64 l.next))]])
          fun v =>
          qb (qb (unC v) fun y => fBool y) fun b_1 =>
            br (!b_1 == b) (some (V.c (C.f (F.sc (Value.bool false))), [], []))
              (some (V.c (C.f (F.sc (Value.bool true))), [], [])))) : Option (V × List Vm.Obj × List Vm.Obj)) from by kernel_rfl]
  have h14 := pres_f (rn14 l hs)
  have h15 := pres_f (rn15 l hs)
  simp only [Letter.cells, V.ag, List.map_cons, List.map_nil] at h14 h15
  simp only [h14, h15, qb, unC, fBool, br_if]
  simp

set_option linter.unusedVariables false

theorem own : ownKnob Try.prog.godebug = none := by kernel_rfl
theorem laid : laidOutB Try.prog = true := by kernel_rfl

theorem contract (H : Type) (enc : TypeId × Value → H) (W : World) (base : Nat) (args : Array Value) (ds gs : List (DataW H)) (before : List MemPlace)
    (hval : ∀ (j : Nat) t v, Try.f4.params[j]? = some t → args[j]? = some v → Value.okWide Try.prog W .any base t v)
    (hW : DataW.Whole enc Try.prog Try.f4.params.toList Rows.fnExactLetterOkSpec.vars false W args.toList ds gs before) :
    Calls Try.prog 4 args W fun e W' => ∃ v, e = .returned v ∧ Rows.fnExactLetterOkSpec.post enc Try.prog Try.f4 false true false false W args v W' := by
  have hW' := hW
  obtain ⟨p, q, hA0, hV, rfl, hfz, hnd⟩ := hW
  have hA : DataW.TrodAll enc Try.prog W 0 (fun _ => true) true Try.f4.params.toList args.toList ds p := hA0
  rw [Try.params4] at hA hval
  obtain ⟨v0, vs0, d0, ds0, p0, q0, hargs, rfl, rfl, h0, r0⟩ := trodAll_cons hA
  obtain ⟨rfl, rfl, rfl⟩ := trodAll_nil r0
  obtain rfl : args = #[v0] := by cases args; simp_all
  obtain ⟨rfl, rfl⟩ := trodVars_none hV
  obtain ⟨x0, e0, b0⟩ := rd_el (k := .letter) (h := hpOf .arg 0 []) (loc := fun _ => none) ksOk' (by kernel_rfl) (by kernel_rfl) (hval 0 23 v0 rfl rfl) h0
  refine (law_calls (vs := [v0]) progOK (law x0 b0) rfl (by unfold VWs VWs ; exact ⟨e0, trivial⟩)).mono fun e W1 ⟨he, a1, a2, a3, a4⟩ => ?_
  subst he
  exact ⟨_, rfl, law_post (tb := 4) rfl rfl rfl (by kernel_rfl) laid (by rw [Try.params4]; intro t ht; simp at ht; subst ht; exact ⟨by kernel_rfl, of_decide_eq_true (by kernel_rfl)⟩) hW' a1 a2 a4⟩

set_option maxRecDepth 100000 in
theorem lifted (os : Os) (started : os.Started) (H : Type) (enc : TypeId × Value → H) :
    ReturnsInHanded {} Try.checked os 4 .any (Rows.fnExactLetterOkSpec.pre6 enc Try.prog Try.f4 Rows.fnExactLetterOkRow.domain false) (Rows.fnExactLetterOkSpec.post enc Try.prog Try.f4 false true false false) := by
  refine returnsInHanded_of_change (C := Try.checked) own started (by kernel_rfl) Try.func4
    (ChangeSpec.witness6 (enc := enc) (C := Try.checked) false ⟨#[], #[.agg #[.string ⟨#[]⟩, .int .i64 0, .int .i64 0, .int .i64 0, .int .i64 0]], []⟩ 8 (by kernel_rfl) (by kernel_rfl) (by kernel_rfl) (by kernel_rfl)) ?_
  intro W base args ds gs before hval hW _ _
  exact contract H enc W base args ds gs before hval hW

theorem over : Rows.fnExactLetterOkRow.holds Try.pinned (OpenSpec.ofChange Rows.fnExactLetterOkSpec) :=
  OpenClaim.holds_of_wide 4 Try.f4 rfl rfl rfl rfl rfl rfl rfl ⟨rfl, rfl, rfl, rfl, rfl⟩ rfl rfl rfl rfl rfl (by kernel_rfl) Try.func4 (by kernel_rfl)
    (of_decide_eq_true (by kernel_rfl)) (by unfold Func.isWrapper; first | (rw [if_pos (by decide +kernel)]; kernel_rfl) | (rw [if_neg (by decide +kernel)]; exact ⟨rfl, rfl⟩))
    (fun os started H enc _ => lifted os started H enc)

theorem proved : Rows.FnExactLetterOkSaid :=
  over

end Go.Proofs.Ythhgnkogjccceaa.fnExactLetterOk
