/-
  FnExactClientOk: the law answers true.
-/
import Derived.Test.YtepghohkfnmhmaaDoorFClOk
import Derived.Test.YtepghohkfnmhmaaDoorFClHelp
import Derived.Test.YtepghohkfnmhmaaDoorTie
import Derived.Test.YtepghohkfnmhmaaDoorCards
import Derived.OpenShut
import Derived.WalkKit
import Derived.ProofKit
import Derived.LaidMore
import Derived.Lay
import Derived.Test.YtepghohkfnmhmaaDoorVmDoor
import Derived.Stop.LaidErr
import Derived.Stop.Joined
import Derived.SevenTiedAt
namespace Go.Proofs.YtepghohkfnmhmaaDoor.fnExactClientOk
open Go.Vm Go.ChangeShapes Go.WideShapes Go.ChangeAt Go.RowKit
set_option linter.unusedVariables false
set_option linter.unusedSimpArgs false

theorem law (c : Client) (hb : ∃ n, ∀ f ∈ Client.cells c, BdF n f) : RN 3 [.ag (Client.cells c)] [] = some (.bool true, [], []) := by
  obtain ⟨n, hb⟩ := hb
  obtain ⟨hb1, hb2⟩ := Client.Bd_share hb
  refine rn_of_resid (n := 0) ?_
  rw [laws_FnExactClientOk_res]
  have e0 := pres_f (szClient_rn c hb1 hb2 1048576 (by omega) (by omega))
  simp only [Client.cells, V.ag, List.map_cons, List.map_nil] at e0
  rw [e0]
  simp only [qb_s, unC_s, fInt_s]
  by_cases hc : (c.cost : Int) ≤ 1048576
  · rw [vLeft_yes hc, show decide ((1048576 : Int) - (c.cost : Int) < 0) = false by simp; omega]
    have h1 : c.share.cost ≤ 1048576 := by unfold Client.cost at hc; omega
    have h2 : c.host.size ≤ 1048576 := by unfold Client.cost at hc; omega
    have e1 := pres_ag (toClient_rn c (by omega))
    have e2 := pres_f (spec_ClientOk_rn c (by omega) (by omega))
    have e3 := pres_f (impl_ClientOk_rn c (by omega) (by omega))
    have e4 := pres_f (eqClient_rn c c (by omega))
    simp only [Client.cells, V.ag, List.map_cons, List.map_nil] at e1 e2 e3 e4
    have ew : ∀ x : Client, asClient (.agg [.f (.int x.step), .f (.str x.host), .f (.bool x.must), .f (.int x.eph), .f (.int x.body), .f (.int x.share.op), .f (.int x.share.n), .f (.str x.share.s), .f (.sl false .term x.share.kids), .f (.int x.inn), .f (.int x.out), .f (.bool x.tls), .f (.bool x.proved)]) = some x := by
      rintro ⟨a1, a2, a3, a4, a5, ⟨o, n, s, k⟩, a6, a7, a8, a9⟩
      rfl
    simp only [e1, br, qb_s, ew, e2, e3, unC_s, fBool_s, e4]
    simp
  · rw [vLeft_not hc]
    rfl

theorem own : ownKnob Tryd.prog.godebug = none := by kernel_rfl
theorem laid : laidOutB Tryd.prog = true := by kernel_rfl

set_option maxRecDepth 100000 in
theorem contract (H : Type) (enc : TypeId × Value → H) (W : World) (base : Nat) (args : Array Value) (ds gs : List (DataW H)) (before : List MemPlace)
    (hval : ∀ (j : Nat) t v, Tryd.f3.params[j]? = some t → args[j]? = some v → Value.okWide Tryd.prog W .any base t v)
    (hW : DataW.Whole enc Tryd.prog Tryd.f3.params.toList Rows.fnExactClientOkSpec.vars false W args.toList ds gs before) (hS : W.ShapedOpen Tryd.prog) (hL : laidMetH Tryd.prog Rows.fnExactClientOkRow.laid W) :
    Calls Tryd.prog 3 args W fun e W' => ∃ v, e = .returned v ∧ Rows.fnExactClientOkSpec.post enc Tryd.prog Tryd.f3 false true false false W args v W' := by
  have hok : GG.ok W := Tryd.laysM146.s1_3 W hS
  have hlt : ∀ b, GG.bl b → b < W.heap.size := fun b hb => by
    obtain ⟨m, hm⟩ := hok
    cases hb
    exact World.block_lt_of_cell? _ _ hm
  have hW' := hW
  obtain ⟨p, q, hA0, hV, rfl, hfz, hnd⟩ := hW
  have hA : DataW.TrodAll enc Tryd.prog W 0 (fun _ => true) true Tryd.f3.params.toList args.toList ds p := hA0
  rw [Tryd.params3] at hA hval
  obtain ⟨v0, vs0, d0, ds0, p0, q0, hargs, rfl, rfl, h0, r0⟩ := trodAll_cons hA
  obtain ⟨rfl, rfl, rfl⟩ := trodAll_nil r0
  obtain rfl : args = #[v0] := by cases args; simp_all
  obtain ⟨rfl, rfl⟩ := trodVars_none hV
  obtain ⟨x0, e0, b0⟩ := rd_client (h := hpOf .arg 0 []) (loc := fun _ => none) ksOk' (by kernel_rfl) (by kernel_rfl) (hval 0 26 v0 rfl rfl) h0
  refine (law_calls_at (G := GG) (vs := [v0]) progOK hok hlt (law x0 b0) rfl (by unfold VWs VWs ; exact ⟨e0, trivial⟩)).mono fun e W1 ⟨he, a1, a2, a3, a4⟩ => ?_
  subst he
  exact ⟨_, rfl, law_post (tb := 4) rfl rfl rfl (by kernel_rfl) laid (by rw [Tryd.params3]; intro t ht; simp at ht; subst ht; exact ⟨by kernel_rfl, of_decide_eq_true (by kernel_rfl)⟩) hW' a1 a2 a4⟩


set_option maxRecDepth 100000 in
theorem lifted (os : Os) (started : os.Started) (H : Type) (enc : TypeId × Value → H) :
    ReturnsInHanded {} Tryd.checked os 3 .any (fun w args => (Rows.fnExactClientOkSpec.pre enc Tryd.prog Tryd.f3 [] false w args ∧ laidMetH Tryd.prog Rows.fnExactClientOkRow.laid w) ∧ sizedMet enc Tryd.prog Tryd.f3 (OpenSpec.ofChange Rows.fnExactClientOkSpec) false w args)
      (Rows.fnExactClientOkSpec.post enc Tryd.prog Tryd.f3 false true false false) := by
  refine returnsInHanded_of_change_and_shaped (C := Tryd.checked) (X := fun w _ => laidMetH Tryd.prog Rows.fnExactClientOkRow.laid w) (fun _ _ _ hh h => h.of_heap hh) own started (by kernel_rfl) Tryd.func3
    (ChangeSpec.witness_shaped (enc := enc) (C := Tryd.checked) (os := os) (X := fun w _ => laidMetH Tryd.prog Rows.fnExactClientOkRow.laid w) false (World.laidAll Tryd.prog os Rows.fnExactClientOkRow.laid) #[.agg #[.int .i64 0, .string ⟨#[]⟩, .bool false, .int .i64 0, .int .i64 0, .int .i64 0, .int .i64 0, .string ⟨#[]⟩, .slice none 0 0, .int .i64 0, .int .i64 0, .bool false, .bool false]] 8 (World.laidAll_os _ _ _) (World.shaped_of_ZipB (by kernel_rfl) (by kernel_rfl)) (by kernel_rfl) (by kernel_rfl) (by kernel_rfl) (by rw [MakeChecks.laidMetH_plain _ _ _ (by kernel_rfl)]; exact laidMet_laidAll _ (by kernel_rfl) (by kernel_rfl))) ?_
  intro W base args ds gs before hval0 hW _ _ hS hL _
  exact contract H enc W base args ds gs before hval0 hW hS hL

set_option maxRecDepth 100000 in
theorem over : Rows.FnExactClientOkSaid :=
  OpenClaim.holds_of_wide 3 Tryd.f3 rfl rfl rfl rfl rfl rfl rfl ⟨rfl, rfl, rfl, rfl, rfl⟩ rfl rfl rfl rfl rfl (by kernel_rfl) Tryd.func3 (by kernel_rfl)
    (of_decide_eq_true (by kernel_rfl)) (by unfold Func.isWrapper; first | (rw [if_pos (by decide +kernel)]; kernel_rfl) | (rw [if_neg (by decide +kernel)]; exact ⟨rfl, rfl⟩))
    (fun os started H enc _ => lifted os started H enc)

set_option maxRecDepth 100000 in
theorem proved : Rows.FnExactClientOkCardSaid :=
  Claim7.holds_tied_plain_at .later [] [.data, .pinned] true (true, "33b41fa3aeca2f9869f54beb82952e0ec71714b488127398d37e1d44eca2549d") true
    over (fun _ h => by cases h) (by kernel_rfl) (fun _ h => by cases h) fnExactClientOk_row_tie rfl ⟨rfl, rfl⟩ (by kernel_rfl) rfl
    (fun f fn hf hfn => by
      obtain rfl : f = 3 := Option.some.inj ((show Tryd.prog.funcNamed "loop.example/g00328/laws.FnExactClientOk" = some 3 by kernel_rfl).symm.trans hf) |>.symm
      obtain rfl : fn = Tryd.f3 := (Option.some.inj (Tryd.func3.symm.trans hfn)).symm
      exact ⟨by kernel_rfl, fun j t ht => by
        rw [Tryd.params3] at ht
        have hmem : t ∈ [26] := List.mem_of_getElem? (by simpa using ht)
        simp only [List.mem_cons, List.not_mem_nil, or_false] at hmem
        subst hmem
        exact (show Tryd.prog.wantsStandIn 26 = false by kernel_rfl)⟩)
    (by kernel_rfl)

end Go.Proofs.YtepghohkfnmhmaaDoor.fnExactClientOk
