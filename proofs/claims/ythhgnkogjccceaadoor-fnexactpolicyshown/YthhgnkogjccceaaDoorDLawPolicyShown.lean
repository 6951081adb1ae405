/-
  FnExactPolicyShown: for every policy the law answers true, and its argument reads as before; three tables of the library's are tied to its text.
-/
import Derived.Test.YthhgnkogjccceaaDoorDPSh
import Derived.Test.YthhgnkogjccceaaDoorDPolHelp
import Derived.Test.YthhgnkogjccceaaDoorTie
import Derived.Test.YthhgnkogjccceaaDoorCards
import Derived.OpenShut
import Derived.WalkKit
import Derived.ProofKit
import Derived.LaidMore
import Derived.Stop.LaidErr
import Derived.Stop.Joined
import Derived.SevenTiedAt
namespace Go.Proofs.YthhgnkogjccceaaDoor.fnExactPolicyShown
open Go.Vm Go.ChangeShapes Go.WideShapes Go.ChangeAt Go.RowKit
set_option linter.unusedVariables false
set_option linter.unusedSimpArgs false

theorem law (p : Policy) (b : ∃ n, ∀ f ∈ cellsOf .policy p, BdF n f) : RN 4 [.ag (Policy.cells p)] [] = some (.bool true, [], []) := by
  have hb := Policy.Bd.of b
  obtain ⟨n0, n1⟩ := bd_int (bd_of b (f := .int p.til) (by simp [cellsOf, Policy.cells]))
  refine rn_of_resid (n := 0) ?_
  have h0 := pres_f (szPolicy_rn p hb 1048576 (by omega) (by omega))
  simp only [Policy.cells, V.ag, List.map_cons, List.map_nil] at h0
  rw [laws_FnExactPolicyShown_res, h0]
  simp only [qb, unC, fInt]
  by_cases h : (p.cost : Int) ≤ 1048576
  · have hc : p.cost = p.domain.size + (p.mx.length + sumC ByteArray.size p.mx) := rfl
    have h1 := pres_f (spec_PolicyShown_rn p (by omega) n0 n1)
    have h2 := pres_f (impl_PolicyShown_rn p (by omega) n0 n1)
    have h3 := pres_ag (toPolicy_rn p (by omega))
    have h4 := pres_f (eqPolicy_rn p p (by omega))
    simp only [Policy.cells, V.ag, List.map_cons, List.map_nil] at h1 h2 h3 h4
    rw [vLeft_yes h, show decide ((1048576 : Int) - (p.cost : Int) < 0) = false by simp; omega]
    simp only [br, h1, h2, h3, h4, asEl, lmapM, frzC, Option.bind_some, ofCells, unC, fStr, fBool]
    simp
  · rw [vLeft_not h]
    rfl

theorem own : ownKnob Tryd.prog.godebug = none := by kernel_rfl
theorem laid : laidOutB Tryd.prog = true := by kernel_rfl
theorem powType : (Tryd.prog.globals[gPow]?).map (·.type) = some 105 := by kernel_rfl

theorem tab_of {W : World} (hL : laidMetH Tryd.prog Rows.fnExactPolicyShownRow.laid W) : Lib.TabIs Tryd.prog W "internal/strconv.uint64pow10" .u64 Lib.pow10Tab := by
  have h0 : laidMet Tryd.prog Rows.fnExactPolicyShownRow.laid W := hL
  have h1 : laidMet Tryd.prog (Rows.fnExactPolicyShownRow.laid.drop 2) W := laidMet.tail (laidMet.tail (h0))
  have h2 : Rows.fnExactPolicyShownRow.laid.drop 2 = ("internal/strconv.uint64pow10", Lib.tabData .u64 Lib.pow10Tab) :: Rows.fnExactPolicyShownRow.laid.drop 3 := by kernel_rfl
  rw [h2] at h1
  exact Lib.tabIs_of_head gPow_is powType Tryd.underlying105 Tryd.underlying95 (by kernel_rfl) (by kernel_rfl) h1

set_option maxRecDepth 100000 in
theorem contract (H : Type) (enc : TypeId × Value → H) (W : World) (base : Nat) (args : Array Value) (ds gs : List (DataW H)) (before : List MemPlace)
    (hval : ∀ (j : Nat) t v, Tryd.f4.params[j]? = some t → args[j]? = some v → Value.okWide Tryd.prog W .any base t v)
    (hW : DataW.Whole enc Tryd.prog Tryd.f4.params.toList Rows.fnExactPolicyShownSpec.vars false W args.toList ds gs before) (hL : laidMetH Tryd.prog Rows.fnExactPolicyShownRow.laid W) :
    Calls Tryd.prog 4 args W fun e W' => ∃ v, e = .returned v ∧ Rows.fnExactPolicyShownSpec.post enc Tryd.prog Tryd.f4 false true false false W args v W' := by
  obtain ⟨hok, hlt⟩ := Gl.tab_of gPow_is (tab_of hL)
  have hW' := hW
  obtain ⟨p, q, hA0, hV, rfl, hfz, hnd⟩ := hW
  have hA : DataW.TrodAll enc Tryd.prog W 0 (fun _ => true) true Tryd.f4.params.toList args.toList ds p := hA0
  rw [Tryd.params4] at hA hval
  obtain ⟨v0, vs0, d0, ds0, p0, q0, hargs, rfl, rfl, h0, r0⟩ := trodAll_cons hA
  obtain ⟨rfl, rfl, rfl⟩ := trodAll_nil r0
  obtain rfl : args = #[v0] := by cases args; simp_all
  obtain ⟨rfl, rfl⟩ := trodVars_none hV
  obtain ⟨x0, e0, b0⟩ := rd_el (k := .policy) (h := hpOf .arg 0 []) (loc := fun _ => none) ksOk' (by kernel_rfl) (by kernel_rfl) (hval 0 31 v0 rfl rfl) h0
  have e0 := VW.avoid rfl hok e0
  refine (law_calls_at (G := GG) (vs := [v0]) progOK hok (fun b hb => by cases hb; exact hlt) (law x0 b0) rfl (by unfold VWs VWs ; exact ⟨e0, trivial⟩)).mono fun e W1 ⟨he, a1, a2, a3, a4⟩ => ?_
  subst he
  exact ⟨_, rfl, law_post (tb := 4) rfl rfl rfl (by kernel_rfl) laid (by rw [Tryd.params4]; intro t ht; simp at ht; subst ht; exact ⟨by kernel_rfl, of_decide_eq_true (by kernel_rfl)⟩) hW' a1 a2 a4⟩

set_option maxRecDepth 100000 in
theorem door_met (os : Os) (args : Array Value) : laidMetH Tryd.prog Rows.fnExactPolicyShownRow.laid ((World.doorLaid Tryd.prog 600 os).forCall (fun _ _ => 0) ⟨#[], args, []⟩).memory :=
  laidMetH_of_parts3 (fuel := 8) (laidMet_of_run' 8 (by kernel_rfl) (by kernel_rfl)) (by kernel_rfl) (by kernel_rfl)

set_option maxRecDepth 100000 in
theorem lifted (os : Os) (started : os.Started) (H : Type) (enc : TypeId × Value → H) :
    ReturnsInHanded {} Tryd.checked os 4 .any (fun w args => (Rows.fnExactPolicyShownSpec.pre enc Tryd.prog Tryd.f4 [] false w args ∧ laidMetH Tryd.prog Rows.fnExactPolicyShownRow.laid w) ∧ sizedMet enc Tryd.prog Tryd.f4 (OpenSpec.ofChange Rows.fnExactPolicyShownSpec) false w args)
      (Rows.fnExactPolicyShownSpec.post enc Tryd.prog Tryd.f4 false true false false) := by
  refine returnsInHanded_of_change_and (C := Tryd.checked) (X := fun w _ => laidMetH Tryd.prog Rows.fnExactPolicyShownRow.laid w) (fun _ _ _ hh h => h.of_heap hh) own started (by kernel_rfl) Tryd.func4
    (ChangeSpec.witness_shaped (enc := enc) (C := Tryd.checked) (os := os) (X := fun w _ => laidMetH Tryd.prog Rows.fnExactPolicyShownRow.laid w) false (World.doorLaid Tryd.prog 600 os) #[.agg #[.string ⟨#[]⟩, .int .i64 0, .slice none 0 0, .int .i64 0]] 8 rfl (World.shaped_of_RefB (by kernel_rfl) (by kernel_rfl)) (by kernel_rfl) (by kernel_rfl) (by kernel_rfl) (door_met os _)) ?_
  intro W base args ds gs before hval0 hW _ _ hL _
  exact contract H enc W base args ds gs before hval0 hW hL

set_option maxRecDepth 100000 in
theorem over : Rows.FnExactPolicyShownSaid :=
  OpenClaim.holds_of_wide 4 Tryd.f4 rfl rfl rfl rfl rfl rfl rfl ⟨rfl, rfl, rfl, rfl, rfl⟩ rfl rfl rfl rfl rfl (by kernel_rfl) Tryd.func4 (by kernel_rfl)
    (of_decide_eq_true (by kernel_rfl)) (by unfold Func.isWrapper; first | (rw [if_pos (by decide +kernel)]; kernel_rfl) | (rw [if_neg (by decide +kernel)]; exact ⟨rfl, rfl⟩))
    (fun os started H enc _ => lifted os started H enc)

set_option maxRecDepth 100000 in
theorem proved : Rows.FnExactPolicyShownCardSaid :=
  Claim7.holds_tied_plain_at .later [] [.data, .data, .data] true (true, "c53af271d6c10c466299b4640ef2dc0901b44a3698231a432a3f47f01c154d6a") false
    over (fun _ h => by cases h) (by kernel_rfl) (fun _ h => by cases h) fnExactPolicyShown_row_tie rfl ⟨rfl, rfl⟩ (by kernel_rfl) rfl
    (fun f fn hf hfn => by
      obtain rfl : f = 4 := Option.some.inj ((show Tryd.prog.funcNamed "loop.example/g00328/laws.FnExactPolicyShown" = some 4 by kernel_rfl).symm.trans hf) |>.symm
      obtain rfl : fn = Tryd.f4 := (Option.some.inj (Tryd.func4.symm.trans hfn)).symm
      exact ⟨by kernel_rfl, fun j t ht => by
        rw [Tryd.params4] at ht
        have hmem : t ∈ [31] := List.mem_of_getElem? (by simpa using ht)
        simp only [List.mem_cons, List.not_mem_nil, or_false] at hmem
        subst hmem
        exact (show Tryd.prog.wantsStandIn 31 = false by kernel_rfl)⟩)
    (by kernel_rfl)

end Go.Proofs.YthhgnkogjccceaaDoor.fnExactPolicyShown
