/-
  FnExactLetterEnd: for every letter and flag the law answers true, and its arguments read as before.
-/
import Derived.Test.YthhgnkogjccceaaVmSeat1
import Derived.OpenShut
import Derived.WalkKit
import Derived.ProofKit
namespace Go.Proofs.Ythhgnkogjccceaa.fnExactLetterEnd
open Go.Vm Go.ChangeShapes Go.WideShapes Go.ChangeAt Go.RowKit

theorem res (l : Letter) (q : Bool) : resid Try.prog cfg (rn Try.prog cfg) 0 5 [.ag (Letter.cells l), .bool q] [] =
  (br (decide (IntKind.i64.wrap (1048576 - ↑l.domain.size) < 0)) (some (V.c (C.f (F.sc (Value.bool true))), [], []))
  (br (decide (IntKind.i64.wrap (1048576 - ↑l.domain.size) < 0)) (some (V.c (C.f (F.sc (Value.bool true))), [], []))
    (br (l.state != 1)
      (br (l.state != 1)
        (br (!l.domain.toList == l.domain.toList) (some (V.c (C.f (F.sc (Value.bool false))), [], []))
          (br (l.body != l.body) (some (V.c (C.f (F.sc (Value.bool false))), [], []))
            (br (l.state != l.state) (some (V.c (C.f (F.sc (Value.bool false))), [], []))
              (br (l.tries != l.tries) (some (V.c (C.f (F.sc (Value.bool false))), [], []))
                (br (l.next != l.next) (some (V.c (C.f (F.sc (Value.bool false))), [], []))
                  (some (V.c (C.f (F.sc (Value.bool true))), [], [])))))))
        (br q
          (br (!l.domain.toList == l.domain.toList) (some (V.c (C.f (F.sc (Value.bool false))), [], []))
            (br (l.body != l.body) (some (V.c (C.f (F.sc (Value.bool false))), [], []))
              (br (2 != l.state) (some (V.c (C.f (F.sc (Value.bool false))), [], []))
                (br (l.tries != l.tries) (some (V.c (C.f (F.sc (Value.bool false))), [], []))
                  (br (l.next != l.next) (some (V.c (C.f (F.sc (Value.bool false))), [], []))
                    (some (V.c (C.f (F.sc (Value.bool true))), [], [])))))))
          (br (!l.domain.toList == l.domain.toList) (some (V.c (C.f (F.sc (Value.bool false))), [], []))
            (br (l.body != l.body) (some (V.c (C.f (F.sc (Value.bool false))), [], []))
              (br (3 != l.state) (some (V.c (C.f (F.sc (Value.bool false))), [], []))
                (br (l.tries != l.tries) (some (V.c (C.f (F.sc (Value.bool false))), [], []))
                  (br (l.next != l.next) (some (V.c (C.f (F.sc (Value.bool false))), [], []))
                    (some (V.c (C.f (F.sc (Value.bool true))), [], [])))))))))
      (br q
        (br (l.state != 1)
          (br (!l.domain.toList == l.domain.toList) (some (V.c (C.f (F.sc (Value.bool false))), [], []))
            (br (l.body != l.body) (some (V.c (C.f (F.sc (Value.bool false))), [], []))
              (br (l.state != 2) (some (V.c (C.f (F.sc (Value.bool false))), [], []))
                (br (l.tries != l.tries) (some (V.c (C.f (F.sc (Value.bool false))), [], []))
                  (br (l.next != l.next) (some (V.c (C.f (F.sc (Value.bool false))), [], []))
                    (some (V.c (C.f (F.sc (Value.bool true))), [], [])))))))
          (br q
            (br (!l.domain.toList == l.domain.toList) (some (V.c (C.f (F.sc (Value.bool false))), [], []))
              (br (l.body != l.body) (some (V.c (C.f (F.sc (Value.bool false))), [], []))
                (br (l.tries != l.tries) (some (V.c (C.f (F.sc (Value.bool false))), [], []))
                  (br (l.next != l.next) (some (V.c (C.f (F.sc (Value.bool false))), [], []))
                    (some (V.c (C.f (F.sc (Value.bool true))), [], []))))))
            (br (!l.domain.toList == l.domain.toList) (some (V.c (C.f (F.sc (Value.bool false))), [], []))
              (br (l.body != l.body) (some (V.c (C.f (F.sc (Value.bool false))), [], []))
                (some (V.c (C.f (F.sc (Value.bool false))), [], []))))))
        (br (l.state != 1)
          (br (!l.domain.toList == l.domain.toList) (some (V.c (C.f (F.sc (Value.bool false))), [], []))
            (br (l.body != l.body) (some (V.c (C.f (F.sc (Value.bool false))), [], []))
              (br (l.state != 3) (some (V.c (C.f (F.sc (Value.bool false))), [], []))
                (br (l.tries != l.tries) (some (V.c (C.f (F.sc (Value.bool false))), [], []))
                  (br (l.next != l.next) (some (V.c (C.f (F.sc (Value.bool false))), [], []))
                    (some (V.c (C.f (F.sc (Value.bool true))), [], [])))))))
          (br q
            (br (!l.domain.toList == l.domain.toList) (some (V.c (C.f (F.sc (Value.bool false))), [], []))
              (br (l.body != l.body) (some (V.c (C.f (F.sc (Value.bool false))), [], []))
                (some (V.c (C.f (F.sc (Value.bool false))), [], []))))
            (br (!l.domain.toList == l.domain.toList) (some (V.c (C.f (F.sc (Value.bool false))), [], []))
              (br (l.body != l.body) (some (V.c (C.f (F.sc (Value.bool false))), [], []))
                (br (l.tries != l.tries) (some (V.c (C.f (F.sc (Value.bool false))), [], []))
                  (br (l.next != l.next) (some (V.c (C.f (F.sc (Value.bool false))), [], []))
                    (some (V.c (C.f (F.sc (Value.bool true))), [], []))))))))))) : Option (V × List Vm.Obj × List Vm.Obj)) := by kernel_rfl

theorem law (l : Letter) (q : Bool) : rn Try.prog cfg 5 [.ag (Letter.cells l), .bool q] [] = some (.bool true, [], []) := by
  refine rn_of_resid ((res l q).trans ?_)
  by_cases h : l.state = 1 <;> cases q <;> cases decide (IntKind.i64.wrap (1048576 - (l.domain.size : Int)) < 0) <;> simp [br_if, h]

set_option linter.unusedVariables false

theorem own : ownKnob Try.prog.godebug = none := by kernel_rfl
theorem laid : laidOutB Try.prog = true := by kernel_rfl

theorem contract (H : Type) (enc : TypeId × Value → H) (W : World) (base : Nat) (args : Array Value) (ds gs : List (DataW H)) (before : List MemPlace)
    (hval : ∀ (j : Nat) t v, Try.f5.params[j]? = some t → args[j]? = some v → Value.okWide Try.prog W .any base t v)
    (hW : DataW.Whole enc Try.prog Try.f5.params.toList Rows.fnExactLetterEndSpec.vars false W args.toList ds gs before) :
    Calls Try.prog 5 args W fun e W' => ∃ v, e = .returned v ∧ Rows.fnExactLetterEndSpec.post enc Try.prog Try.f5 false true false false W args v W' := by
  have hW' := hW
  obtain ⟨p, q, hA0, hV, rfl, hfz, hnd⟩ := hW
  have hA : DataW.TrodAll enc Try.prog W 0 (fun _ => true) true Try.f5.params.toList args.toList ds p := hA0
  rw [Try.params5] at hA hval
  obtain ⟨v0, vs0, d0, ds0, p0, q0, hargs, rfl, rfl, h0, r0⟩ := trodAll_cons hA
  obtain ⟨v1, vs1, d1, ds1, p1, q1, rfl, rfl, rfl, h1, r1⟩ := trodAll_cons r0
  obtain ⟨rfl, rfl, rfl⟩ := trodAll_nil r1
  obtain rfl : args = #[v0, v1] := by cases args; simp_all
  obtain ⟨rfl, rfl⟩ := trodVars_none hV
  obtain ⟨x0, e0⟩ := rd_el (k := .letter) (h := hpOf .arg 0 []) (loc := fun _ => none) ksOk' (by kernel_rfl) (by kernel_rfl) (hval 0 23 v0 rfl rfl) h0
  obtain ⟨f1, ⟨x1, rfl⟩, e1⟩ := rd_one (a := .bool) (h := hpOf .arg 0 []) (loc := fun _ => none) ksOk' (by kernel_rfl) (by kernel_rfl) (hval 1 4 v1 rfl rfl) h1
  refine (law_calls (vs := [v0, v1]) progOK (law x0 x1) rfl (by unfold VWs VWs VWs ; exact ⟨e0, e1, trivial⟩)).mono fun e W1 ⟨he, a1, a2, a3, a4⟩ => ?_
  subst he
  exact ⟨_, rfl, law_post (tb := 4) rfl rfl rfl (by kernel_rfl) laid (by rw [Try.params5]; intro t ht; simp at ht; rcases ht with rfl | rfl <;> exact ⟨by kernel_rfl, of_decide_eq_true (by kernel_rfl)⟩) hW' a1 a2 a4⟩

set_option maxRecDepth 100000 in
theorem lifted (os : Os) (started : os.Started) (H : Type) (enc : TypeId × Value → H) :
    ReturnsInHanded {} Try.checked os 5 .any (Rows.fnExactLetterEndSpec.pre6 enc Try.prog Try.f5 Rows.fnExactLetterEndRow.domain false) (Rows.fnExactLetterEndSpec.post enc Try.prog Try.f5 false true false false) := by
  refine returnsInHanded_of_change (C := Try.checked) own started (by kernel_rfl) Try.func5
    (ChangeSpec.witness6 (enc := enc) (C := Try.checked) false ⟨#[], #[.agg #[.string ⟨#[]⟩, .int .i64 0, .int .i64 0, .int .i64 0, .int .i64 0], .bool false], []⟩ 8 (by kernel_rfl) (by kernel_rfl) (by kernel_rfl) (by kernel_rfl)) ?_
  intro W base args ds gs before hval hW _ _
  exact contract H enc W base args ds gs before hval hW

theorem over : Rows.fnExactLetterEndRow.holds Try.pinned (OpenSpec.ofChange Rows.fnExactLetterEndSpec) :=
  OpenClaim.holds_of_wide 5 Try.f5 rfl rfl rfl rfl rfl rfl rfl ⟨rfl, rfl, rfl, rfl, rfl⟩ rfl rfl rfl rfl rfl (by kernel_rfl) Try.func5 (by kernel_rfl)
    (of_decide_eq_true (by kernel_rfl)) (by unfold Func.isWrapper; first | (rw [if_pos (by decide +kernel)]; kernel_rfl) | (rw [if_neg (by decide +kernel)]; exact ⟨rfl, rfl⟩))
    (fun os started H enc _ => lifted os started H enc)

theorem proved : Rows.FnExactLetterEndSaid :=
  over

end Go.Proofs.Ythhgnkogjccceaa.fnExactLetterEnd
