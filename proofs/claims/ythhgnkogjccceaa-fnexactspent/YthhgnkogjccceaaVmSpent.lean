/-
  FnExactSpent: for every letter and time the law answers true, and its arguments read as before.
-/
import Derived.Test.YthhgnkogjccceaaVmSeat1
import Derived.OpenShut
import Derived.WalkKit
import Derived.ProofKit
namespace Go.Proofs.Ythhgnkogjccceaa.fnExactSpent
open Go.Vm Go.ChangeShapes Go.WideShapes Go.ChangeAt Go.RowKit
set_option linter.unusedVariables false

def tree (a b c d : Bool) : Option (V × List Vm.Obj × List Vm.Obj) :=
  br a (some (.bool true, [], []))
  (br a (some (.bool true, [], []))
    (br b
      (br c
        (br b
          (br c
            (br (!d == d) (some (.bool false, [], [])) (some (.bool true, [], [])))
            (br (!false == d) (some (.bool false, [], [])) (some (.bool true, [], []))))
          (br (!false == d) (some (.bool false, [], [])) (some (.bool true, [], []))))
        (br b
          (br c
            (br (!d == false) (some (.bool false, [], [])) (some (.bool true, [], [])))
            (some (.bool true, [], [])))
          (some (.bool true, [], []))))
      (br b
        (br c
          (br (!d == false) (some (.bool false, [], [])) (some (.bool true, [], [])))
          (some (.bool true, [], [])))
        (some (.bool true, [], [])))))

theorem tree_true (a b c d : Bool) : tree a b c d = some (.bool true, [], []) := by cases a <;> cases b <;> cases c <;> cases d <;> rfl

theorem res (l : Letter) (q : Int) : resid Try.prog cfg (rn Try.prog cfg) 0 3 [.ag (Letter.cells l), .int q] [] =
    tree (decide (IntKind.i64.wrap (1048576 - (l.domain.size : Int)) < 0)) (l.state == 1) (l.tries == 4) (decide (l.next ≤ q)) := by kernel_rfl

theorem law (l : Letter) (q : Int) : rn Try.prog cfg 3 [.ag (Letter.cells l), .int q] [] = some (.bool true, [], []) := rn_of_resid ((res l q).trans (tree_true _ _ _ _))

theorem own : ownKnob Try.prog.godebug = none := by kernel_rfl
theorem laid : laidOutB Try.prog = true := by kernel_rfl

theorem contract (H : Type) (enc : TypeId × Value → H) (W : World) (base : Nat) (args : Array Value) (ds gs : List (DataW H)) (before : List MemPlace)
    (hval : ∀ (j : Nat) t v, Try.f3.params[j]? = some t → args[j]? = some v → Value.okWide Try.prog W .any base t v)
    (hW : DataW.Whole enc Try.prog Try.f3.params.toList Rows.fnExactSpentSpec.vars false W args.toList ds gs before) :
    Calls Try.prog 3 args W fun e W' => ∃ v, e = .returned v ∧ Rows.fnExactSpentSpec.post enc Try.prog Try.f3 false true false false W args v W' := by
  have hW' := hW
  obtain ⟨p, q, hA0, hV, rfl, hfz, hnd⟩ := hW
  have hA : DataW.TrodAll enc Try.prog W 0 (fun _ => true) true Try.f3.params.toList args.toList ds p := hA0
  rw [Try.params3] at hA hval
  obtain ⟨v0, vs0, d0, ds0, p0, q0, hargs, rfl, rfl, h0, r0⟩ := trodAll_cons hA
  obtain ⟨v1, vs1, d1, ds1, p1, q1, rfl, rfl, rfl, h1, r1⟩ := trodAll_cons r0
  obtain ⟨rfl, rfl, rfl⟩ := trodAll_nil r1
  obtain rfl : args = #[v0, v1] := by cases args; simp_all
  obtain ⟨rfl, rfl⟩ := trodVars_none hV
  obtain ⟨x0, e0⟩ := rd_el (k := .letter) (h := hpOf .arg 0 []) (loc := fun _ => none) ksOk' (by kernel_rfl) (by kernel_rfl) (hval 0 23 v0 rfl rfl) h0
  obtain ⟨f1, ⟨n1, rfl⟩, e1⟩ := rd_one (a := .int) (h := hpOf .arg 0 []) (loc := fun _ => none) ksOk' (by kernel_rfl) (by kernel_rfl) (hval 1 3 v1 rfl rfl) h1
  refine (law_calls (vs := [v0, v1]) progOK (law x0 n1) rfl (by unfold VWs VWs VWs; exact ⟨e0, e1, trivial⟩)).mono fun e W1 ⟨he, a1, a2, a3, a4⟩ => ?_
  subst he
  exact ⟨_, rfl, law_post (tb := 4) rfl rfl rfl (by kernel_rfl) laid (by rw [Try.params3]; intro t ht; simp at ht; rcases ht with rfl | rfl <;> exact ⟨by kernel_rfl, of_decide_eq_true (by kernel_rfl)⟩) hW' a1 a2 a4⟩

set_option maxRecDepth 100000 in
theorem lifted (os : Os) (started : os.Started) (H : Type) (enc : TypeId × Value → H) :
    ReturnsInHanded {} Try.checked os 3 .any (Rows.fnExactSpentSpec.pre6 enc Try.prog Try.f3 Rows.fnExactSpentRow.domain false) (Rows.fnExactSpentSpec.post enc Try.prog Try.f3 false true false false) := by
  refine returnsInHanded_of_change (C := Try.checked) own started (by kernel_rfl) Try.func3
    (ChangeSpec.witness6 (enc := enc) (C := Try.checked) false ⟨#[], #[.agg #[.string ⟨#[]⟩, .int .i64 0, .int .i64 0, .int .i64 0, .int .i64 0], .int .i64 0], []⟩ 8 (by kernel_rfl) (by kernel_rfl) (by kernel_rfl) (by kernel_rfl)) ?_
  intro W base args ds gs before hval hW _ _
  exact contract H enc W base args ds gs before hval hW

theorem over : Rows.fnExactSpentRow.holds Try.pinned (OpenSpec.ofChange Rows.fnExactSpentSpec) :=
  OpenClaim.holds_of_wide 3 Try.f3 rfl rfl rfl rfl rfl rfl rfl ⟨rfl, rfl, rfl, rfl, rfl⟩ rfl rfl rfl rfl rfl (by kernel_rfl) Try.func3 (by kernel_rfl)
    (of_decide_eq_true (by kernel_rfl)) (by unfold Func.isWrapper; first | (rw [if_pos (by decide +kernel)]; kernel_rfl) | (rw [if_neg (by decide +kernel)]; exact ⟨rfl, rfl⟩))
    (fun os started H enc _ => lifted os started H enc)

theorem proved : Rows.FnExactSpentSaid :=
  over

end Go.Proofs.Ythhgnkogjccceaa.fnExactSpent
