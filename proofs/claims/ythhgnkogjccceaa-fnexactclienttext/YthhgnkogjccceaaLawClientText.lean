/-
  FnExactClientText: for every client the law answers true, and its argument reads as before.
-/
import Derived.Test.YthhgnkogjccceaaS2
import Derived.OpenShut
import Derived.WalkKit
import Derived.ProofKit
namespace Go.Proofs.Ythhgnkogjccceaa.fnExactClientText
open Go.Vm Go.ChangeShapes Go.WideShapes Go.ChangeAt Go.RowKit
set_option linter.unusedVariables false
set_option linter.unusedSimpArgs false

theorem law (c : Client) (b : ∃ n, ∀ f ∈ Client.cells c, BdF n f) : RN 9 [.ag (Client.cells c)] [] = some (.bool true, [], []) := by
  obtain ⟨n, hb⟩ := b
  obtain ⟨hs, hh⟩ := Client.Bd_share hb
  refine rn_of_resid (n := 0) ?_
  have h1 := pres_f (szClient_rn c hs hh)
  rw [laws_FnExactClientText_res]
  simp only [Client.cells, V.ag, List.map_cons, List.map_nil] at h1
  rw [h1]
  simp only [qb, unC, fInt]
  by_cases hl : ((c.host.size + c.share.cost : Nat) : Int) ≤ 1048576
  · have h2 := pres_ag (toClient_rn c (by omega))
    have h3 := pres_f (spec_ClientText_rn c (by omega))
    have h4 := pres_f (impl_ClientText_rn c (by omega))
    have h5 := pres_f (eqClient_rn c c (by omega))
    simp only [Client.cells, V.ag, List.map_cons, List.map_nil] at h2 h3 h4 h5
    rw [show decide (leftOf (c.host.size + c.share.cost) 1048576 < 0) = false by unfold leftOf; rw [if_pos hl]; simp; omega]
    simp only [br, h2, asClient, h3, h4, h5, unC, fStr, fBool]
    simp
  · rw [show decide (leftOf (c.host.size + c.share.cost) 1048576 < 0) = true by unfold leftOf; rw [if_neg hl]; rfl]
    rfl

set_option linter.unusedVariables false

theorem own : ownKnob Try.prog.godebug = none := by kernel_rfl
theorem laid : laidOutB Try.prog = true := by kernel_rfl

theorem contract (H : Type) (enc : TypeId × Value → H) (W : World) (base : Nat) (args : Array Value) (ds gs : List (DataW H)) (before : List MemPlace)
    (hval : ∀ (j : Nat) t v, Try.f9.params[j]? = some t → args[j]? = some v → Value.okWide Try.prog W .any base t v)
    (hW : DataW.Whole enc Try.prog Try.f9.params.toList Rows.fnExactClientTextSpec.vars false W args.toList ds gs before) :
    Calls Try.prog 9 args W fun e W' => ∃ v, e = .returned v ∧ Rows.fnExactClientTextSpec.post enc Try.prog Try.f9 false true false false W args v W' := by
  have hW' := hW
  obtain ⟨p, q, hA0, hV, rfl, hfz, hnd⟩ := hW
  have hA : DataW.TrodAll enc Try.prog W 0 (fun _ => true) true Try.f9.params.toList args.toList ds p := hA0
  rw [Try.params9] at hA hval
  obtain ⟨v0, vs0, d0, ds0, p0, q0, hargs, rfl, rfl, h0, r0⟩ := trodAll_cons hA
  obtain ⟨rfl, rfl, rfl⟩ := trodAll_nil r0
  obtain rfl : args = #[v0] := by cases args; simp_all
  obtain ⟨rfl, rfl⟩ := trodVars_none hV
  obtain ⟨x0, e0, b0⟩ := rd_client (h := hpOf .arg 0 []) (loc := fun _ => none) ksOk' (by kernel_rfl) (by kernel_rfl) (hval 0 54 v0 rfl rfl) h0
  refine (law_calls (vs := [v0]) progOK (law x0 b0) rfl (by unfold VWs VWs ; exact ⟨e0, trivial⟩)).mono fun e W1 ⟨he, a1, a2, a3, a4⟩ => ?_
  subst he
  exact ⟨_, rfl, law_post (tb := 4) rfl rfl rfl (by kernel_rfl) laid (by rw [Try.params9]; intro t ht; simp at ht; subst ht; exact ⟨by kernel_rfl, of_decide_eq_true (by kernel_rfl)⟩) hW' a1 a2 a4⟩

set_option maxRecDepth 100000 in
theorem lifted (os : Os) (started : os.Started) (H : Type) (enc : TypeId × Value → H) :
    ReturnsInHanded {} Try.checked os 9 .any (Rows.fnExactClientTextSpec.pre6 enc Try.prog Try.f9 Rows.fnExactClientTextRow.domain false) (Rows.fnExactClientTextSpec.post enc Try.prog Try.f9 false true false false) := by
  refine returnsInHanded_of_change (C := Try.checked) own started (by kernel_rfl) Try.func9
    (ChangeSpec.witness6 (enc := enc) (C := Try.checked) false ⟨#[], #[.agg #[.int .i64 0, .string ⟨#[]⟩, .bool false, .int .i64 0, .int .i64 0, .int .i64 0, .int .i64 0, .string ⟨#[]⟩, .slice none 0 0, .int .i64 0, .int .i64 0, .bool false, .bool false]], []⟩ 8 (by kernel_rfl) (by kernel_rfl) (by kernel_rfl) (by kernel_rfl)) ?_
  intro W base args ds gs before hval hW _ _
  exact contract H enc W base args ds gs before hval hW

theorem over : Rows.fnExactClientTextRow.holds Try.pinned (OpenSpec.ofChange Rows.fnExactClientTextSpec) :=
  OpenClaim.holds_of_wide 9 Try.f9 rfl rfl rfl rfl rfl rfl rfl ⟨rfl, rfl, rfl, rfl, rfl⟩ rfl rfl rfl rfl rfl (by kernel_rfl) Try.func9 (by kernel_rfl)
    (of_decide_eq_true (by kernel_rfl)) (by unfold Func.isWrapper; first | (rw [if_pos (by decide +kernel)]; kernel_rfl) | (rw [if_neg (by decide +kernel)]; exact ⟨rfl, rfl⟩))
    (fun os started H enc _ => lifted os started H enc)

theorem proved : Rows.FnExactClientTextSaid :=
  over

end Go.Proofs.Ythhgnkogjccceaa.fnExactClientText

