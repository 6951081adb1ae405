/-
  FnExactJudgeSecret: for every world the law answers true, and its argument reads as before.
-/
import Derived.Test.YtoebfbhcbpiheaaGreatDoorJuJd
import Derived.Test.YtoebfbhcbpiheaaGreatDoorJuRec
import Derived.Test.YtoebfbhcbpiheaaGreatDoorTie
import Derived.Test.YtoebfbhcbpiheaaGreatDoorCards
import Derived.OpenShut
import Derived.WalkKit
import Derived.ProofKit
import Derived.LaidMore
import Derived.Lay
import Derived.Test.YtoebfbhcbpiheaaGreatDoorVm6
import Derived.Stop.LaidErr
import Derived.Stop.Joined
import Derived.SevenTiedAt
namespace Go.Proofs.YtoebfbhcbpiheaaGreatDoor.fnExactJudgeSecret
open Go.Vm Go.ChangeShapes Go.WideShapes Go.ChangeAt Go.RowKit
set_option linter.unusedVariables false
set_option linter.unusedSimpArgs false

theorem law (w : WorldD) (b : ∃ n, ∀ f ∈ WorldD.cells w, BdF n f) : RN 7 [.ag (WorldD.cells w)] [] = some (.bool true, [], []) := by
  refine rn_of_resid (n := 0) ((laws_FnExactJudgeSecret_res 0 w).trans ?_)
  unfold laws_FnExactJudgeSecret_R
  rw [szWorld_t w b 1048576 (by omega) (by omega), qb_s, vLeft_ge (by omega)]
  by_cases h : (w.cost : Int) ≤ 1048576
  case neg => rw [decide_eq_false h]; rfl
  rw [decide_eq_true h, Bool.not_true, br_f]
  simp only [toWorld_t w (by omega), spec_JudgeSecret_t w (by omega), impl_JudgeSecret_t w (by omega), eqWorld_t w w (by omega), qb_s]
  simp [br]

theorem own : ownKnob Tryz.prog.godebug = none := by kernel_rfl
theorem laid : laidOutB Tryz.prog = true := by kernel_rfl

set_option maxRecDepth 100000 in
set_option maxHeartbeats 8000000 in
theorem contract (H : Type) (enc : TypeId × Value → H) (W : World) (base : Nat) (args : Array Value) (ds gs : List (DataW H)) (before : List MemPlace)
    (hval : ∀ (j : Nat) t v, Tryz.f7.params[j]? = some t → args[j]? = some v → Value.okWide Tryz.prog W .any base t v)
    (hW : DataW.Whole enc Tryz.prog Tryz.f7.params.toList Rows.fnExactJudgeSecretSpec.vars false W args.toList ds gs before) (hS : W.ShapedOpen Tryz.prog) (hL : laidMetH Tryz.prog Rows.fnExactJudgeSecretRow.laid W) :
    Calls Tryz.prog 7 args W fun e W' => ∃ v, e = .returned v ∧ Rows.fnExactJudgeSecretSpec.post enc Tryz.prog Tryz.f7 false true false false W args v W' := by
  have ok_num : (Gl.num .i64 0).ok W := Tryz.laysM146.s1_3 W hS
  have lt_num : ∀ b, (Gl.num .i64 0).bl b → b < W.heap.size := fun b hb => by
    obtain ⟨m, hm⟩ := ok_num
    cases hb
    exact World.block_lt_of_cell? _ _ hm
  have hok : GG.ok W := ok_num
  have hlt : ∀ b, GG.bl b → b < W.heap.size := fun b hb => lt_num b hb
  have hW' := hW
  obtain ⟨p, q, hA0, hV, rfl, hfz, hnd⟩ := hW
  have hA : DataW.TrodAll enc Tryz.prog W 0 (fun _ => true) true Tryz.f7.params.toList args.toList ds p := hA0
  rw [Tryz.params7] at hA hval
  obtain ⟨v0, vs0, d0, ds0, p0, q0, hargs, rfl, rfl, h0, r0⟩ := trodAll_cons hA
  obtain ⟨rfl, rfl, rfl⟩ := trodAll_nil r0
  obtain rfl : args = #[v0] := by cases args; simp_all
  obtain ⟨rfl, rfl⟩ := trodVars_none hV
  obtain ⟨x0, e0, b0⟩ := rd_world (h := hpOf .arg 0 []) (loc := fun _ => none) ksOk' (by kernel_rfl) (by kernel_rfl) (hval 0 40 v0 rfl rfl) h0
  refine (law_calls_at (G := GG) (vs := [v0]) progOK hok hlt (law x0 b0) rfl (by unfold VWs VWs ; exact ⟨e0, trivial⟩)).mono fun e W1 ⟨he, a1, a2, a3, a4⟩ => ?_
  subst he
  exact ⟨_, rfl, law_post (tb := 4) rfl rfl rfl (by kernel_rfl) laid (by rw [Tryz.params7]; intro t ht; simp at ht; subst ht; exact ⟨by kernel_rfl, of_decide_eq_true (by kernel_rfl)⟩) hW' a1 a2 a4⟩

set_option maxRecDepth 100000 in
set_option maxHeartbeats 8000000 in
theorem closed : joinedFacts Tryz.prog 7 Tryz.f7 Rows.fnExactJudgeSecretSpec Rows.fnExactJudgeSecretRow = true := by
  unfold joinedFacts
  simp only [Bool.and_eq_true]
  and_intros
  all_goals (as_aux_lemma => kernel_rfl)

set_option maxRecDepth 100000 in
set_option maxHeartbeats 8000000 in
theorem lifted (os : Os) (started : os.Started) (H : Type) (enc : TypeId × Value → H) :
    ReturnsInHanded {} Tryz.checked os 7 .any (fun w args => (Rows.fnExactJudgeSecretSpec.pre enc Tryz.prog Tryz.f7 [] false w args ∧ laidMetH Tryz.prog Rows.fnExactJudgeSecretRow.laid w) ∧ sizedMet enc Tryz.prog Tryz.f7 (OpenSpec.ofChange Rows.fnExactJudgeSecretSpec) false w args)
      (Rows.fnExactJudgeSecretSpec.post enc Tryz.prog Tryz.f7 false true false false) := by
  refine returnsInHanded_of_change_and_shaped (C := Tryz.checked) (X := fun w _ => laidMetH Tryz.prog Rows.fnExactJudgeSecretRow.laid w) (fun _ _ _ hh h => h.of_heap hh) own started (by kernel_rfl) Tryz.func7
    (ChangeSpec.witness_shaped (enc := enc) (C := Tryz.checked) (os := os) (X := fun w _ => laidMetH Tryz.prog Rows.fnExactJudgeSecretRow.laid w) false (World.laidAll Tryz.prog os Rows.fnExactJudgeSecretRow.laid) #[.agg #[.int .i64 0, .int .i64 0, .slice none 0 0, .slice none 0 0, .slice none 0 0, .slice none 0 0, .string ⟨#[]⟩, .int .i64 0, .slice none 0 0, .slice none 0 0, .slice none 0 0]] 8 (World.laidAll_os _ _ _) (World.shaped_of_ZipB (by kernel_rfl) (by kernel_rfl)) (by kernel_rfl) (by kernel_rfl) (by kernel_rfl) (by rw [MakeChecks.laidMetH_plain _ _ _ (by kernel_rfl)]; exact laidMet_laidAll _ (by kernel_rfl) (by kernel_rfl))) ?_
  intro W base args ds gs before hval0 hW _ _ hS hL _
  exact contract H enc W base args ds gs before hval0 hW hS hL

set_option maxRecDepth 100000 in
set_option maxHeartbeats 8000000 in
theorem over : Rows.FnExactJudgeSecretSaid :=
  OpenClaim.holds_of_wide 7 Tryz.f7 rfl rfl rfl rfl rfl rfl rfl ⟨rfl, rfl, rfl, rfl, rfl⟩ rfl rfl rfl rfl rfl (by as_aux_lemma => kernel_rfl) Tryz.func7 closed
    (of_decide_eq_true (by as_aux_lemma => kernel_rfl)) (by unfold Func.isWrapper; first | (rw [if_pos (by decide +kernel)]; kernel_rfl) | (rw [if_neg (by decide +kernel)]; exact ⟨rfl, rfl⟩))
    (fun os started H enc _ => lifted os started H enc)

set_option maxRecDepth 100000 in
set_option maxHeartbeats 8000000 in
theorem proved : Rows.FnExactJudgeSecretCardSaid :=
  Claim7.holds_tied_plain_at .later [] [.data, .pinned] true (true, "0dc50ba5b814ba55436345c3fa55ae180eef66cc6e67e9db9138be86283e4f16") true
    over (fun _ h => by cases h) (by as_aux_lemma => kernel_rfl) (fun _ h => by cases h) fnExactJudgeSecret_row_tie rfl ⟨rfl, rfl⟩ (by as_aux_lemma => kernel_rfl) rfl
    (fun f fn hf hfn => by
      obtain rfl : f = 7 := Option.some.inj ((show Tryz.prog.funcNamed "loop.example/g00328/laws.FnExactJudgeSecret" = some 7 by as_aux_lemma => kernel_rfl).symm.trans hf) |>.symm
      obtain rfl : fn = Tryz.f7 := (Option.some.inj (Tryz.func7.symm.trans hfn)).symm
      exact ⟨by as_aux_lemma => kernel_rfl, fun j t ht => by
        rw [Tryz.params7] at ht
        have hmem : t ∈ [40] := List.mem_of_getElem? (by simpa using ht)
        simp only [List.mem_cons, List.not_mem_nil, or_false] at hmem
        subst hmem
        exact (show Tryz.prog.wantsStandIn 40 = false by kernel_rfl)⟩)
    (by as_aux_lemma => kernel_rfl)

end Go.Proofs.YtoebfbhcbpiheaaGreatDoor.fnExactJudgeSecret
