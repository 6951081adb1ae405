/-
  FnExactProved: for all terms, every host and time the law answers true, and its arguments read as before.
-/
import Derived.Test.YtepghohkfnmhmaaGreatDoorPvCe
import Derived.Test.YtepghohkfnmhmaaGreatDoorPvHelp
import Derived.Test.YtepghohkfnmhmaaGreatDoorTie
import Derived.Test.YtepghohkfnmhmaaGreatDoorCards
import Derived.OpenShut
import Derived.WalkKit
import Derived.ProofKit
import Derived.LaidMore
import Derived.Lay
import Derived.Test.YtepghohkfnmhmaaGreatDoorVm6
import Derived.Stop.LaidErr
import Derived.Stop.Joined
import Derived.SevenTiedAt
namespace Go.Proofs.YtepghohkfnmhmaaGreatDoor.fnExactProved
open Go.Vm Go.ChangeShapes Go.WideShapes Go.ChangeAt Go.RowKit
set_option linter.unusedVariables false
set_option linter.unusedSimpArgs false

theorem term_bd {t : Term} (h : ∃ n, ∀ f ∈ Term.cells t, BdF n f) : t.Bd := by
  obtain ⟨n, h⟩ := h
  exact Term.Bd.of (n := n) h

theorem law (e pub cert sign : Term) (host : ByteArray) (now : Int) (b0 : ∃ n, ∀ f ∈ Term.cells e, BdF n f) (b1 : ∃ n, ∀ f ∈ Term.cells pub, BdF n f) (b2 : ∃ n, ∀ f ∈ Term.cells cert, BdF n f) (b3 : ∃ n, ∀ f ∈ Term.cells sign, BdF n f) (_b4 : ∃ n, BdF n (.str host)) (_b5 : ∃ n, BdF n (.int now)) :
    RN 3 [.ag (Term.cells e), .ag (Term.cells pub), .ag (Term.cells cert), .ag (Term.cells sign), .str host, .int now] [] = some (.bool true, [], []) := by
  refine rn_of_resid (n := 0) ((laws_FnExactProved_res 0 e pub cert sign host now).trans ?_)
  unfold laws_FnExactProved_R
  by_cases h : (host.size : Int) ≤ 1048576
  case neg => rw [show decide ((host.size : Int) > 1048576) = true by simp; omega]; rfl
  rw [show decide ((host.size : Int) > 1048576) = false by simp; omega, br_f, szTerm_t e (term_bd b0) 1048576 (by omega) (by omega), qb_s, vLeft_ge (by omega)]
  by_cases g0 : (e.cost : Int) ≤ 1048576
  case neg => rw [decide_eq_false g0]; rfl
  rw [decide_eq_true g0, Bool.not_true, br_f, vLeft_yes g0, szTerm_t pub (term_bd b1) _ (by omega) (by omega), qb_s, vLeft_ge (by omega)]
  by_cases g1 : (pub.cost : Int) ≤ 1048576 - e.cost
  case neg => rw [decide_eq_false g1]; rfl
  rw [decide_eq_true g1, Bool.not_true, br_f, vLeft_yes g1, szTerm_t cert (term_bd b2) _ (by omega) (by omega), qb_s, vLeft_ge (by omega)]
  by_cases g2 : (cert.cost : Int) ≤ 1048576 - e.cost - pub.cost
  case neg => rw [decide_eq_false g2]; rfl
  rw [decide_eq_true g2, Bool.not_true, br_f, vLeft_yes g2, szTerm_t sign (term_bd b3) _ (by omega) (by omega), qb_s, vLeft_ge (by omega)]
  by_cases g3 : (sign.cost : Int) ≤ 1048576 - e.cost - pub.cost - cert.cost
  case neg => rw [decide_eq_false g3]; rfl
  rw [decide_eq_true g3, Bool.not_true, br_f]
  simp only [toTerm_t e (by omega), toTerm_t pub (by omega), toTerm_t cert (by omega), toTerm_t sign (by omega), qb_s, spec_Proved_t e pub cert sign host now (by omega) (by omega) (by omega) (by omega), impl_Proved_t e pub cert sign host now (by omega) (by omega) (by omega) (by omega),
    eqTerm_t e (by omega), eqTerm_t pub (by omega), eqTerm_t cert (by omega), eqTerm_t sign (by omega)]
  simp [br]

theorem own : ownKnob Tryz.prog.godebug = none := by kernel_rfl
theorem laid : laidOutB Tryz.prog = true := by kernel_rfl

theorem powType : (Tryz.prog.globals[gPow]?).map (·.type) = some 102 := by kernel_rfl

theorem tab_of {W : World} (hL : laidMetH Tryz.prog Rows.fnExactProvedRow.laid W) : Lib.TabIs Tryz.prog W "internal/strconv.uint64pow10" .u64 Lib.pow10Tab := by
  have h0 : laidMet Tryz.prog Rows.fnExactProvedRow.laid W := hL
  have h1 : laidMet Tryz.prog (Rows.fnExactProvedRow.laid.drop 2) W := laidMet.tail (laidMet.tail (h0))
  have h2 : Rows.fnExactProvedRow.laid.drop 2 = ("internal/strconv.uint64pow10", Lib.tabData .u64 Lib.pow10Tab) :: Rows.fnExactProvedRow.laid.drop 3 := by kernel_rfl
  rw [h2] at h1
  exact Lib.tabIs_of_head gPow_is powType Tryz.underlying102 Tryz.underlying78 (by kernel_rfl) (by kernel_rfl) h1

theorem err_es {W : World} (hL : laidMetH Tryz.prog Rows.fnExactProvedRow.laid W) : (Gl.err 0).ok W := by
  have h0 : laidMet Tryz.prog Rows.fnExactProvedRow.laid W := hL
  have h1 : laidMet Tryz.prog (Rows.fnExactProvedRow.laid.drop 5) W := laidMet.tail (laidMet.tail (laidMet.tail (laidMet.tail (laidMet.tail (h0)))))
  have h2 : Rows.fnExactProvedRow.laid.drop 5 = ("strconv.ErrSyntax", .iface "*errors.errorString" (.ptr (.agg [.lit (.string [105, 110, 118, 97, 108, 105, 100, 32, 115, 121, 110, 116, 97, 120])]))) :: Rows.fnExactProvedRow.laid.drop 6 := by kernel_rfl
  rw [h2] at h1
  exact (err_of_head (t := 56) (by kernel_rfl) (by kernel_rfl) ⟨_, Tryz.underlying56⟩ h1).1

theorem err_er {W : World} (hL : laidMetH Tryz.prog Rows.fnExactProvedRow.laid W) : (Gl.err 1).ok W := by
  have h0 : laidMet Tryz.prog Rows.fnExactProvedRow.laid W := hL
  have h1 : laidMet Tryz.prog (Rows.fnExactProvedRow.laid.drop 4) W := laidMet.tail (laidMet.tail (laidMet.tail (laidMet.tail (h0))))
  have h2 : Rows.fnExactProvedRow.laid.drop 4 = ("strconv.ErrRange", .iface "*errors.errorString" (.ptr (.agg [.lit (.string [118, 97, 108, 117, 101, 32, 111, 117, 116, 32, 111, 102, 32, 114, 97, 110, 103, 101])]))) :: Rows.fnExactProvedRow.laid.drop 5 := by kernel_rfl
  rw [h2] at h1
  exact (err_of_head (t := 56) (by kernel_rfl) (by kernel_rfl) ⟨_, Tryz.underlying56⟩ h1).1

set_option maxRecDepth 100000 in
set_option maxHeartbeats 8000000 in
theorem contract (H : Type) (enc : TypeId × Value → H) (W : World) (base : Nat) (args : Array Value) (ds gs : List (DataW H)) (before : List MemPlace)
    (hval : ∀ (j : Nat) t v, Tryz.f3.params[j]? = some t → args[j]? = some v → Value.okWide Tryz.prog W .any base t v)
    (hW : DataW.Whole enc Tryz.prog Tryz.f3.params.toList Rows.fnExactProvedSpec.vars false W args.toList ds gs before) (hS : W.ShapedOpen Tryz.prog) (hL : laidMetH Tryz.prog Rows.fnExactProvedRow.laid W) :
    Calls Tryz.prog 3 args W fun e W' => ∃ v, e = .returned v ∧ Rows.fnExactProvedSpec.post enc Tryz.prog Tryz.f3 false true false false W args v W' := by
  have ok_num : (Gl.num .i64 5).ok W := Tryz.laysM146.s1_3 W hS
  have lt_num : ∀ b, (Gl.num .i64 5).bl b → b < W.heap.size := fun b hb => by
    obtain ⟨m, hm⟩ := ok_num
    cases hb
    exact World.block_lt_of_cell? _ _ hm
  obtain ⟨ok_tab, lt_tab0⟩ := Gl.tab_of gPow_is (tab_of hL)
  have lt_tab : ∀ b, (Gl.tab .u64 Lib.pow10Tab gPow).bl b → b < W.heap.size := fun b hb => by cases hb; exact lt_tab0
  have ok_es : (Gl.err 0).ok W := err_es hL
  have lt_es : ∀ b, (Gl.err 0).bl b → b < W.heap.size := fun b hb => by
    obtain ⟨ev, hm, _⟩ := ok_es
    cases hb
    exact World.block_lt_of_cell? _ _ hm
  have ok_er : (Gl.err 1).ok W := err_er hL
  have lt_er : ∀ b, (Gl.err 1).bl b → b < W.heap.size := fun b hb => by
    obtain ⟨ev, hm, _⟩ := ok_er
    cases hb
    exact World.block_lt_of_cell? _ _ hm
  have hok : GG.ok W := ⟨ok_num, ⟨ok_tab, ⟨ok_es, ok_er⟩⟩⟩
  have hlt : ∀ b, GG.bl b → b < W.heap.size := fun b hb => hb.elim (fun hb => lt_num b hb) (fun hb => hb.elim (fun hb => lt_tab b hb) (fun hb => hb.elim (fun hb => lt_es b hb) (fun hb => lt_er b hb)))
  have hW' := hW
  obtain ⟨p, q, hA0, hV, rfl, hfz, hnd⟩ := hW
  have hA : DataW.TrodAll enc Tryz.prog W 0 (fun _ => true) true Tryz.f3.params.toList args.toList ds p := hA0
  rw [Tryz.params3] at hA hval
  obtain ⟨v0, vs0, d0, ds0, p0, q0, hargs, rfl, rfl, h0, r0⟩ := trodAll_cons hA
  obtain ⟨v1, vs1, d1, ds1, p1, q1, rfl, rfl, rfl, h1, r1⟩ := trodAll_cons r0
  obtain ⟨v2, vs2, d2, ds2, p2, q2, rfl, rfl, rfl, h2, r2⟩ := trodAll_cons r1
  obtain ⟨v3, vs3, d3, ds3, p3, q3, rfl, rfl, rfl, h3, r3⟩ := trodAll_cons r2
  obtain ⟨v4, vs4, d4, ds4, p4, q4, rfl, rfl, rfl, h4, r4⟩ := trodAll_cons r3
  obtain ⟨v5, vs5, d5, ds5, p5, q5, rfl, rfl, rfl, h5, r5⟩ := trodAll_cons r4
  obtain ⟨rfl, rfl, rfl⟩ := trodAll_nil r5
  obtain rfl : args = #[v0, v1, v2, v3, v4, v5] := by cases args; simp_all
  obtain ⟨rfl, rfl⟩ := trodVars_none hV
  obtain ⟨x0, e0, b0⟩ := rd_el (k := .term) (h := hpOf .arg 0 []) (loc := fun _ => none) ksOk' (by kernel_rfl) (by kernel_rfl) (hval 0 24 v0 rfl rfl) h0
  obtain ⟨x1, e1, b1⟩ := rd_el (k := .term) (h := hpOf .arg 0 []) (loc := fun _ => none) ksOk' (by kernel_rfl) (by kernel_rfl) (hval 1 24 v1 rfl rfl) h1
  obtain ⟨x2, e2, b2⟩ := rd_el (k := .term) (h := hpOf .arg 0 []) (loc := fun _ => none) ksOk' (by kernel_rfl) (by kernel_rfl) (hval 2 24 v2 rfl rfl) h2
  obtain ⟨x3, e3, b3⟩ := rd_el (k := .term) (h := hpOf .arg 0 []) (loc := fun _ => none) ksOk' (by kernel_rfl) (by kernel_rfl) (hval 3 24 v3 rfl rfl) h3
  obtain ⟨f4, ⟨x4, rfl⟩, e4, b4⟩ := rd_one (a := .str) (h := hpOf .arg 0 []) (loc := fun _ => none) ksOk' (by kernel_rfl) (by kernel_rfl) (hval 4 9 v4 rfl rfl) h4
  obtain ⟨f5, ⟨x5, rfl⟩, e5, b5⟩ := rd_one (a := .int) (h := hpOf .arg 0 []) (loc := fun _ => none) ksOk' (by kernel_rfl) (by kernel_rfl) (hval 5 3 v5 rfl rfl) h5
  refine (law_calls_at (G := GG) (vs := [v0, v1, v2, v3, v4, v5]) progOK hok hlt (law x0 x1 x2 x3 x4 x5 b0 b1 b2 b3 b4 b5) rfl (by unfold VWs VWs VWs VWs VWs VWs VWs ; exact ⟨e0, e1, e2, e3, e4, e5, trivial⟩)).mono fun e W1 ⟨he, a1, a2, a3, a4⟩ => ?_
  subst he
  exact ⟨_, rfl, law_post (tb := 4) rfl rfl rfl (by kernel_rfl) laid (by rw [Tryz.params3]; intro t ht; simp only [List.mem_cons, List.not_mem_nil, or_false] at ht; rcases ht with rfl | rfl | rfl | rfl | rfl | rfl <;> exact ⟨by kernel_rfl, of_decide_eq_true (by kernel_rfl)⟩) hW' a1 a2 a4⟩

set_option maxRecDepth 100000 in
set_option maxHeartbeats 8000000 in
theorem closed : joinedFacts Tryz.prog 3 Tryz.f3 Rows.fnExactProvedSpec Rows.fnExactProvedRow = true := by
  unfold joinedFacts
  simp only [Bool.and_eq_true]
  and_intros
  all_goals (as_aux_lemma => kernel_rfl)

set_option maxRecDepth 100000 in
set_option maxHeartbeats 8000000 in
theorem lifted (os : Os) (started : os.Started) (H : Type) (enc : TypeId × Value → H) :
    ReturnsInHanded {} Tryz.checked os 3 .any (fun w args => (Rows.fnExactProvedSpec.pre enc Tryz.prog Tryz.f3 [] false w args ∧ laidMetH Tryz.prog Rows.fnExactProvedRow.laid w) ∧ sizedMet enc Tryz.prog Tryz.f3 (OpenSpec.ofChange Rows.fnExactProvedSpec) false w args)
      (Rows.fnExactProvedSpec.post enc Tryz.prog Tryz.f3 false true false false) := by
  refine returnsInHanded_of_change_and_shaped (C := Tryz.checked) (X := fun w _ => laidMetH Tryz.prog Rows.fnExactProvedRow.laid w) (fun _ _ _ hh h => h.of_heap hh) own started (by kernel_rfl) Tryz.func3
    (ChangeSpec.witness_shaped (enc := enc) (C := Tryz.checked) (os := os) (X := fun w _ => laidMetH Tryz.prog Rows.fnExactProvedRow.laid w) false (World.laidAll Tryz.prog os Rows.fnExactProvedRow.laid) #[.agg #[.int .i64 0, .int .i64 0, .string ⟨#[]⟩, .slice none 0 0], .agg #[.int .i64 0, .int .i64 0, .string ⟨#[]⟩, .slice none 0 0], .agg #[.int .i64 0, .int .i64 0, .string ⟨#[]⟩, .slice none 0 0], .agg #[.int .i64 0, .int .i64 0, .string ⟨#[]⟩, .slice none 0 0], .string ⟨#[]⟩, .int .i64 0] 8 (World.laidAll_os _ _ _) (World.shaped_of_ZipB (by kernel_rfl) (by kernel_rfl)) (by kernel_rfl) (by kernel_rfl) (by kernel_rfl) (by rw [MakeChecks.laidMetH_plain _ _ _ (by kernel_rfl)]; exact laidMet_laidAll _ (by kernel_rfl) (by kernel_rfl))) ?_
  intro W base args ds gs before hval0 hW _ _ hS hL _
  exact contract H enc W base args ds gs before hval0 hW hS hL

set_option maxRecDepth 100000 in
set_option maxHeartbeats 8000000 in
theorem over : Rows.FnExactProvedSaid :=
  OpenClaim.holds_of_wide 3 Tryz.f3 rfl rfl rfl rfl rfl rfl rfl ⟨rfl, rfl, rfl, rfl, rfl⟩ rfl rfl rfl rfl rfl (by as_aux_lemma => kernel_rfl) Tryz.func3 closed
    (of_decide_eq_true (by as_aux_lemma => kernel_rfl)) (by unfold Func.isWrapper; first | (rw [if_pos (by decide +kernel)]; kernel_rfl) | (rw [if_neg (by decide +kernel)]; exact ⟨rfl, rfl⟩))
    (fun os started H enc _ => lifted os started H enc)

set_option maxRecDepth 100000 in
set_option maxHeartbeats 8000000 in
theorem proved : Rows.FnExactProvedCardSaid :=
  Claim7.holds_tied_plain_at .later [] [.data, .data, .data, .data, .sentinel, .sentinel, .pinned] true (true, "b3d2651ef779a7630a0110972689bb771046dec30610633d40a5e104a1ed4311") true
    over (fun _ h => by cases h) (by as_aux_lemma => kernel_rfl) (fun _ h => by cases h) fnExactProved_row_tie rfl ⟨rfl, rfl⟩ (by as_aux_lemma => kernel_rfl) rfl
    (fun f fn hf hfn => by
      obtain rfl : f = 3 := Option.some.inj ((show Tryz.prog.funcNamed "loop.example/g00328/laws.FnExactProved" = some 3 by as_aux_lemma => kernel_rfl).symm.trans hf) |>.symm
      obtain rfl : fn = Tryz.f3 := (Option.some.inj (Tryz.func3.symm.trans hfn)).symm
      exact ⟨by as_aux_lemma => kernel_rfl, fun j t ht => by
        rw [Tryz.params3] at ht
        have hmem : t ∈ [24, 24, 24, 24, 9, 3] := List.mem_of_getElem? (by simpa using ht)
        simp only [List.mem_cons, List.not_mem_nil, or_false] at hmem
        rcases hmem with rfl | rfl | rfl | rfl | rfl | rfl
        · exact (show Tryz.prog.wantsStandIn 24 = false by kernel_rfl)
        · exact (show Tryz.prog.wantsStandIn 24 = false by kernel_rfl)
        · exact (show Tryz.prog.wantsStandIn 24 = false by kernel_rfl)
        · exact (show Tryz.prog.wantsStandIn 24 = false by kernel_rfl)
        · exact (show Tryz.prog.wantsStandIn 9 = false by kernel_rfl)
        · exact (show Tryz.prog.wantsStandIn 3 = false by kernel_rfl)⟩)
    (by as_aux_lemma => kernel_rfl)

end Go.Proofs.YtepghohkfnmhmaaGreatDoor.fnExactProved
