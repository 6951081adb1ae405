/-
  FnExactClientNew: for every host, flag and secrets the law answers true, and its arguments read as before.
-/
import Derived.Test.YtepghohkfnmhmaaDoorCnCl
import Derived.Test.YtepghohkfnmhmaaDoorCnRec
import Derived.Test.YtepghohkfnmhmaaDoorCnMk
import Derived.Test.YtepghohkfnmhmaaDoorTie
import Derived.Test.YtepghohkfnmhmaaDoorCards
import Derived.OpenShut
import Derived.WalkKit
import Derived.ProofKit
import Derived.LaidMore
import Derived.Lay
import Derived.Test.YtepghohkfnmhmaaDoorVm6
import Derived.Stop.LaidErr
import Derived.Stop.Joined
import Derived.SevenTiedAt
namespace Go.Proofs.YtepghohkfnmhmaaDoor.fnExactClientNew
open Go.Vm Go.ChangeShapes Go.WideShapes Go.ChangeAt Go.RowKit
set_option linter.unusedVariables false
set_option linter.unusedSimpArgs false

theorem law (host : ByteArray) (must : Bool) (eph body : Int) (b0 : ∃ n, BdF n (.str host)) (b1 : ∃ n, BdF n (.bool must)) (b2 : ∃ n, BdF n (.int eph)) (b3 : ∃ n, BdF n (.int body)) : RN 4 [.str host, .bool must, .int eph, .int body] [] = some (.bool true, [], []) := by
  refine rn_of_resid (n := 0) ((laws_FnExactClientNew_res 0 host must eph body).trans ?_)
  unfold laws_FnExactClientNew_R
  by_cases h : (host.size : Int) ≤ 1048576
  case neg => rw [show decide ((host.size : Int) > 1048576) = true by simp; omega]; rfl
  rw [show decide ((host.size : Int) > 1048576) = false by simp; omega, br_f, spec_ClientNew_t host must eph body (by omega), qb_s, impl_ClientNew_t host must eph body (by omega), qb_s]
  have hk : (clientNew host must eph body).1.share = zeroT := by unfold clientNew; split <;> rfl
  have hh : (clientNew host must eph body).1.host.size ≤ 1048576 := by
    unfold clientNew
    split
    · show host.size ≤ 1048576; omega
    · decide
  have hc : (clientNew host must eph body).1.cost < 9223372036854775807 := by
    unfold Client.cost
    rw [hk]
    have : zeroT.cost = 0 := by decide
    omega
  have hkk : (clientNew host must eph body).1.share.kids = [] := by rw [hk]; rfl
  generalize clientNew host must eph body = g at hk hh hc hkk ⊢
  simp only [eqClient_t g.1 g.1 hc, markClient_nil g.1 hkk, heldClient_nil g.1 hkk 1 (by omega), qb_s]
  simp [br]

theorem own : ownKnob Tryd.prog.godebug = none := by kernel_rfl
theorem laid : laidOutB Tryd.prog = true := by kernel_rfl

set_option maxRecDepth 100000 in
theorem contract (H : Type) (enc : TypeId × Value → H) (W : World) (base : Nat) (args : Array Value) (ds gs : List (DataW H)) (before : List MemPlace)
    (hval : ∀ (j : Nat) t v, Tryd.f4.params[j]? = some t → args[j]? = some v → Value.okWide Tryd.prog W .any base t v)
    (hW : DataW.Whole enc Tryd.prog Tryd.f4.params.toList Rows.fnExactClientNewSpec.vars false W args.toList ds gs before) (hS : W.ShapedOpen Tryd.prog) (hL : laidMetH Tryd.prog Rows.fnExactClientNewRow.laid W) :
    Calls Tryd.prog 4 args W fun e W' => ∃ v, e = .returned v ∧ Rows.fnExactClientNewSpec.post enc Tryd.prog Tryd.f4 false true false false W args v W' := by
  have ok_num : (Gl.num .i64 0).ok W := Tryd.laysM146.s1_3 W hS
  have lt_num : ∀ b, (Gl.num .i64 0).bl b → b < W.heap.size := fun b hb => by
    obtain ⟨m, hm⟩ := ok_num
    cases hb
    exact World.block_lt_of_cell? _ _ hm
  have hok : GG.ok W := ok_num
  have hlt : ∀ b, GG.bl b → b < W.heap.size := fun b hb => lt_num b hb
  have hW' := hW
  obtain ⟨p, q, hA0, hV, rfl, hfz, hnd⟩ := hW
  have hA : DataW.TrodAll enc Tryd.prog W 0 (fun _ => true) true Tryd.f4.params.toList args.toList ds p := hA0
  rw [Tryd.params4] at hA hval
  obtain ⟨v0, vs0, d0, ds0, p0, q0, hargs, rfl, rfl, h0, r0⟩ := trodAll_cons hA
  obtain ⟨v1, vs1, d1, ds1, p1, q1, rfl, rfl, rfl, h1, r1⟩ := trodAll_cons r0
  obtain ⟨v2, vs2, d2, ds2, p2, q2, rfl, rfl, rfl, h2, r2⟩ := trodAll_cons r1
  obtain ⟨v3, vs3, d3, ds3, p3, q3, rfl, rfl, rfl, h3, r3⟩ := trodAll_cons r2
  obtain ⟨rfl, rfl, rfl⟩ := trodAll_nil r3
  obtain rfl : args = #[v0, v1, v2, v3] := by cases args; simp_all
  obtain ⟨rfl, rfl⟩ := trodVars_none hV
  obtain ⟨f0, ⟨x0, rfl⟩, e0, b0⟩ := rd_one (a := .str) (h := hpOf .arg 0 []) (loc := fun _ => none) ksOk' (by kernel_rfl) (by kernel_rfl) (hval 0 9 v0 rfl rfl) h0
  obtain ⟨f1, ⟨x1, rfl⟩, e1, b1⟩ := rd_one (a := .bool) (h := hpOf .arg 0 []) (loc := fun _ => none) ksOk' (by kernel_rfl) (by kernel_rfl) (hval 1 4 v1 rfl rfl) h1
  obtain ⟨f2, ⟨x2, rfl⟩, e2, b2⟩ := rd_one (a := .int) (h := hpOf .arg 0 []) (loc := fun _ => none) ksOk' (by kernel_rfl) (by kernel_rfl) (hval 2 3 v2 rfl rfl) h2
  obtain ⟨f3, ⟨x3, rfl⟩, e3, b3⟩ := rd_one (a := .int) (h := hpOf .arg 0 []) (loc := fun _ => none) ksOk' (by kernel_rfl) (by kernel_rfl) (hval 3 3 v3 rfl rfl) h3
  refine (law_calls_at (G := GG) (vs := [v0, v1, v2, v3]) progOK hok hlt (law x0 x1 x2 x3 b0 b1 b2 b3) rfl (by unfold VWs VWs VWs VWs VWs ; exact ⟨e0, e1, e2, e3, trivial⟩)).mono fun e W1 ⟨he, a1, a2, a3, a4⟩ => ?_
  subst he
  exact ⟨_, rfl, law_post (tb := 4) rfl rfl rfl (by kernel_rfl) laid (by rw [Tryd.params4]; intro t ht; simp only [List.mem_cons, List.not_mem_nil, or_false] at ht; rcases ht with rfl | rfl | rfl | rfl <;> exact ⟨by kernel_rfl, of_decide_eq_true (by kernel_rfl)⟩) hW' a1 a2 a4⟩

set_option maxRecDepth 100000 in
theorem lifted (os : Os) (started : os.Started) (H : Type) (enc : TypeId × Value → H) :
    ReturnsInHanded {} Tryd.checked os 4 .any (fun w args => (Rows.fnExactClientNewSpec.pre enc Tryd.prog Tryd.f4 [] false w args ∧ laidMetH Tryd.prog Rows.fnExactClientNewRow.laid w) ∧ sizedMet enc Tryd.prog Tryd.f4 (OpenSpec.ofChange Rows.fnExactClientNewSpec) false w args)
      (Rows.fnExactClientNewSpec.post enc Tryd.prog Tryd.f4 false true false false) := by
  refine returnsInHanded_of_change_and_shaped (C := Tryd.checked) (X := fun w _ => laidMetH Tryd.prog Rows.fnExactClientNewRow.laid w) (fun _ _ _ hh h => h.of_heap hh) own started (by kernel_rfl) Tryd.func4
    (ChangeSpec.witness_shaped (enc := enc) (C := Tryd.checked) (os := os) (X := fun w _ => laidMetH Tryd.prog Rows.fnExactClientNewRow.laid w) false (World.laidAll Tryd.prog os Rows.fnExactClientNewRow.laid) #[.string ⟨#[]⟩, .bool false, .int .i64 0, .int .i64 0] 8 (World.laidAll_os _ _ _) (World.shaped_of_ZipB (by kernel_rfl) (by kernel_rfl)) (by kernel_rfl) (by kernel_rfl) (by kernel_rfl) (by rw [MakeChecks.laidMetH_plain _ _ _ (by kernel_rfl)]; exact laidMet_laidAll _ (by kernel_rfl) (by kernel_rfl))) ?_
  intro W base args ds gs before hval0 hW _ _ hS hL _
  exact contract H enc W base args ds gs before hval0 hW hS hL

set_option maxRecDepth 100000 in
theorem over : Rows.FnExactClientNewSaid :=
  OpenClaim.holds_of_wide 4 Tryd.f4 rfl rfl rfl rfl rfl rfl rfl ⟨rfl, rfl, rfl, rfl, rfl⟩ rfl rfl rfl rfl rfl (by kernel_rfl) Tryd.func4 (by kernel_rfl)
    (of_decide_eq_true (by kernel_rfl)) (by unfold Func.isWrapper; first | (rw [if_pos (by decide +kernel)]; kernel_rfl) | (rw [if_neg (by decide +kernel)]; exact ⟨rfl, rfl⟩))
    (fun os started H enc _ => lifted os started H enc)

set_option maxRecDepth 100000 in
theorem proved : Rows.FnExactClientNewCardSaid :=
  Claim7.holds_tied_plain_at .later [] [.data, .pinned] true (true, "33b41fa3aeca2f9869f54beb82952e0ec71714b488127398d37e1d44eca2549d") true
    over (fun _ h => by cases h) (by kernel_rfl) (fun _ h => by cases h) fnExactClientNew_row_tie rfl ⟨rfl, rfl⟩ (by kernel_rfl) rfl
    (fun f fn hf hfn => by
      obtain rfl : f = 4 := Option.some.inj ((show Tryd.prog.funcNamed "loop.example/g00328/laws.FnExactClientNew" = some 4 by kernel_rfl).symm.trans hf) |>.symm
      obtain rfl : fn = Tryd.f4 := (Option.some.inj (Tryd.func4.symm.trans hfn)).symm
      exact ⟨by kernel_rfl, fun j t ht => by
        rw [Tryd.params4] at ht
        have hmem : t ∈ [9, 4, 3, 3] := List.mem_of_getElem? (by simpa using ht)
        simp only [List.mem_cons, List.not_mem_nil, or_false] at hmem
        rcases hmem with rfl | rfl | rfl | rfl
        · exact (show Tryd.prog.wantsStandIn 9 = false by kernel_rfl)
        · exact (show Tryd.prog.wantsStandIn 4 = false by kernel_rfl)
        · exact (show Tryd.prog.wantsStandIn 3 = false by kernel_rfl)
        · exact (show Tryd.prog.wantsStandIn 3 = false by kernel_rfl)⟩)
    (by kernel_rfl)

end Go.Proofs.YtepghohkfnmhmaaDoor.fnExactClientNew
