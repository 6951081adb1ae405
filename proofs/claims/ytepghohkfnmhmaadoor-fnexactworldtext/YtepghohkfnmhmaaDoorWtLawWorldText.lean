/-
  FnExactWorldText: for every world the law answers true, and its argument reads as before.
-/
import Derived.Test.YtepghohkfnmhmaaDoorWtWt
import Derived.Test.YtepghohkfnmhmaaDoorWtRec
import Derived.Test.YtepghohkfnmhmaaDoorTie
import Derived.Test.YtepghohkfnmhmaaDoorCards
import Derived.OpenShut
import Derived.WalkKit
import Derived.ProofKit
import Derived.LaidMore
import Derived.Lay
import Derived.Test.YtepghohkfnmhmaaDoorVm6
import Derived.Stop.LaidErr
import Derived.Stop.Joined
import Derived.SevenTiedAt
namespace Go.Proofs.YtepghohkfnmhmaaDoor.fnExactWorldText
open Go.Vm Go.ChangeShapes Go.WideShapes Go.ChangeAt Go.RowKit
set_option linter.unusedVariables false
set_option linter.unusedSimpArgs false

theorem law (w : WorldD) (b : ∃ n, ∀ f ∈ WorldD.cells w, BdF n f) : RN 7 [.ag (WorldD.cells w)] [] = some (.bool true, [], []) := by
  refine rn_of_resid (n := 0) ((laws_FnExactWorldText_res 0 w).trans ?_)
  unfold laws_FnExactWorldText_R
  rw [szWorld_t w b 1048576 (by omega) (by omega), qb_s, vLeft_ge (by omega)]
  by_cases h : (w.cost : Int) ≤ 1048576
  case neg => rw [decide_eq_false h]; rfl
  rw [decide_eq_true h, Bool.not_true, br_f]
  simp only [toWorld_t w (by omega), spec_WorldText_t w (ShowB.of b) (by omega), impl_WorldText_t w (ShowB.of b) (by omega), eqWorld_t w w (by omega), qb_s]
  simp [br]

theorem own : ownKnob Tryd.prog.godebug = none := by kernel_rfl
theorem laid : laidOutB Tryd.prog = true := by kernel_rfl

theorem powType : (Tryd.prog.globals[gPow]?).map (·.type) = some 203 := by kernel_rfl

theorem tab_of {W : World} (hL : laidMetH Tryd.prog Rows.fnExactWorldTextRow.laid W) : Lib.TabIs Tryd.prog W "internal/strconv.uint64pow10" .u64 Lib.pow10Tab := by
  have h0 : laidMet Tryd.prog Rows.fnExactWorldTextRow.laid W := hL
  have h1 : laidMet Tryd.prog (Rows.fnExactWorldTextRow.laid.drop 2) W := laidMet.tail (laidMet.tail (h0))
  have h2 : Rows.fnExactWorldTextRow.laid.drop 2 = ("internal/strconv.uint64pow10", Lib.tabData .u64 Lib.pow10Tab) :: Rows.fnExactWorldTextRow.laid.drop 3 := by kernel_rfl
  rw [h2] at h1
  exact Lib.tabIs_of_head gPow_is powType Tryd.underlying203 Tryd.underlying189 (by kernel_rfl) (by kernel_rfl) h1

set_option maxRecDepth 100000 in
set_option maxHeartbeats 8000000 in
theorem contract (H : Type) (enc : TypeId × Value → H) (W : World) (base : Nat) (args : Array Value) (ds gs : List (DataW H)) (before : List MemPlace)
    (hval : ∀ (j : Nat) t v, Tryd.f7.params[j]? = some t → args[j]? = some v → Value.okWide Tryd.prog W .any base t v)
    (hW : DataW.Whole enc Tryd.prog Tryd.f7.params.toList Rows.fnExactWorldTextSpec.vars false W args.toList ds gs before) (hS : W.ShapedOpen Tryd.prog) (hL : laidMetH Tryd.prog Rows.fnExactWorldTextRow.laid W) :
    Calls Tryd.prog 7 args W fun e W' => ∃ v, e = .returned v ∧ Rows.fnExactWorldTextSpec.post enc Tryd.prog Tryd.f7 false true false false W args v W' := by
  obtain ⟨ok_tab, lt_tab0⟩ := Gl.tab_of gPow_is (tab_of hL)
  have lt_tab : ∀ b, (Gl.tab .u64 Lib.pow10Tab gPow).bl b → b < W.heap.size := fun b hb => by cases hb; exact lt_tab0
  have hok : GG.ok W := ok_tab
  have hlt : ∀ b, GG.bl b → b < W.heap.size := fun b hb => lt_tab b hb
  have hW' := hW
  obtain ⟨p, q, hA0, hV, rfl, hfz, hnd⟩ := hW
  have hA : DataW.TrodAll enc Tryd.prog W 0 (fun _ => true) true Tryd.f7.params.toList args.toList ds p := hA0
  rw [Tryd.params7] at hA hval
  obtain ⟨v0, vs0, d0, ds0, p0, q0, hargs, rfl, rfl, h0, r0⟩ := trodAll_cons hA
  obtain ⟨rfl, rfl, rfl⟩ := trodAll_nil r0
  obtain rfl : args = #[v0] := by cases args; simp_all
  obtain ⟨rfl, rfl⟩ := trodVars_none hV
  obtain ⟨x0, e0, b0⟩ := rd_world (h := hpOf .arg 0 []) (loc := fun _ => none) ksOk' (by kernel_rfl) (by kernel_rfl) (hval 0 63 v0 rfl rfl) h0
  refine (law_calls_at (G := GG) (vs := [v0]) progOK hok hlt (law x0 b0) rfl (by unfold VWs VWs ; exact ⟨e0, trivial⟩)).mono fun e W1 ⟨he, a1, a2, a3, a4⟩ => ?_
  subst he
  exact ⟨_, rfl, law_post (tb := 4) rfl rfl rfl (by kernel_rfl) laid (by rw [Tryd.params7]; intro t ht; simp at ht; subst ht; exact ⟨by kernel_rfl, of_decide_eq_true (by kernel_rfl)⟩) hW' a1 a2 a4⟩

set_option maxRecDepth 100000 in
set_option maxHeartbeats 8000000 in
theorem closed : joinedFacts Tryd.prog 7 Tryd.f7 Rows.fnExactWorldTextSpec Rows.fnExactWorldTextRow = true := by
  unfold joinedFacts
  simp only [Bool.and_eq_true]
  and_intros
  all_goals (as_aux_lemma => kernel_rfl)

set_option maxRecDepth 100000 in
set_option maxHeartbeats 8000000 in
theorem lifted (os : Os) (started : os.Started) (H : Type) (enc : TypeId × Value → H) :
    ReturnsInHanded {} Tryd.checked os 7 .any (fun w args => (Rows.fnExactWorldTextSpec.pre enc Tryd.prog Tryd.f7 [] false w args ∧ laidMetH Tryd.prog Rows.fnExactWorldTextRow.laid w) ∧ sizedMet enc Tryd.prog Tryd.f7 (OpenSpec.ofChange Rows.fnExactWorldTextSpec) false w args)
      (Rows.fnExactWorldTextSpec.post enc Tryd.prog Tryd.f7 false true false false) := by
  refine returnsInHanded_of_change_and_shaped (C := Tryd.checked) (X := fun w _ => laidMetH Tryd.prog Rows.fnExactWorldTextRow.laid w) (fun _ _ _ hh h => h.of_heap hh) own started (by kernel_rfl) Tryd.func7
    (ChangeSpec.witness_shaped (enc := enc) (C := Tryd.checked) (os := os) (X := fun w _ => laidMetH Tryd.prog Rows.fnExactWorldTextRow.laid w) false (World.laidAll Tryd.prog os Rows.fnExactWorldTextRow.laid) #[.agg #[.int .i64 0, .int .i64 0, .slice none 0 0, .slice none 0 0, .slice none 0 0, .slice none 0 0, .string ⟨#[]⟩, .int .i64 0, .slice none 0 0, .slice none 0 0, .slice none 0 0]] 8 (World.laidAll_os _ _ _) (World.shaped_of_ZipB (by kernel_rfl) (by kernel_rfl)) (by kernel_rfl) (by kernel_rfl) (by kernel_rfl) (by rw [MakeChecks.laidMetH_plain _ _ _ (by kernel_rfl)]; exact laidMet_laidAll _ (by kernel_rfl) (by kernel_rfl))) ?_
  intro W base args ds gs before hval0 hW _ _ hS hL _
  exact contract H enc W base args ds gs before hval0 hW hS hL

set_option maxRecDepth 100000 in
set_option maxHeartbeats 8000000 in
theorem over : Rows.FnExactWorldTextSaid :=
  OpenClaim.holds_of_wide 7 Tryd.f7 rfl rfl rfl rfl rfl rfl rfl ⟨rfl, rfl, rfl, rfl, rfl⟩ rfl rfl rfl rfl rfl (by as_aux_lemma => kernel_rfl) Tryd.func7 closed
    (of_decide_eq_true (by as_aux_lemma => kernel_rfl)) (by unfold Func.isWrapper; first | (rw [if_pos (by decide +kernel)]; kernel_rfl) | (rw [if_neg (by decide +kernel)]; exact ⟨rfl, rfl⟩))
    (fun os started H enc _ => lifted os started H enc)

set_option maxRecDepth 100000 in
set_option maxHeartbeats 8000000 in
theorem proved : Rows.FnExactWorldTextCardSaid :=
  Claim7.holds_tied_plain_at .later [] [.data, .data, .data] true (true, "33b41fa3aeca2f9869f54beb82952e0ec71714b488127398d37e1d44eca2549d") true
    over (fun _ h => by cases h) (by as_aux_lemma => kernel_rfl) (fun _ h => by cases h) fnExactWorldText_row_tie rfl ⟨rfl, rfl⟩ (by as_aux_lemma => kernel_rfl) rfl
    (fun f fn hf hfn => by
      obtain rfl : f = 7 := Option.some.inj ((show Tryd.prog.funcNamed "loop.example/g00328/laws.FnExactWorldText" = some 7 by as_aux_lemma => kernel_rfl).symm.trans hf) |>.symm
      obtain rfl : fn = Tryd.f7 := (Option.some.inj (Tryd.func7.symm.trans hfn)).symm
      exact ⟨by as_aux_lemma => kernel_rfl, fun j t ht => by
        rw [Tryd.params7] at ht
        have hmem : t ∈ [63] := List.mem_of_getElem? (by simpa using ht)
        simp only [List.mem_cons, List.not_mem_nil, or_false] at hmem
        subst hmem
        exact (show Tryd.prog.wantsStandIn 63 = false by kernel_rfl)⟩)
    (by as_aux_lemma => kernel_rfl)

end Go.Proofs.YtepghohkfnmhmaaDoor.fnExactWorldText
