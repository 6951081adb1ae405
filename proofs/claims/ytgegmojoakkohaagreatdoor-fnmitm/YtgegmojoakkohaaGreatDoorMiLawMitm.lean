/-
  FnMitm: for every row of bytes the law answers true, and its argument reads as before.
-/
import Derived.Test.YtgegmojoakkohaaGreatDoorMiCy
import Derived.Test.YtgegmojoakkohaaGreatDoorTie
import Derived.Test.YtgegmojoakkohaaGreatDoorCards
import Derived.OpenShut
import Derived.WalkKit
import Derived.ProofKit
import Derived.LaidMore
import Derived.Lay
import Derived.Test.YtgegmojoakkohaaGreatDoorVm6
import Derived.Stop.LaidErr
import Derived.Stop.Joined
import Derived.SevenTiedAt
namespace Go.Proofs.YtgegmojoakkohaaGreatDoor.fnMitm
open Go.Vm Go.ChangeShapes Go.WideShapes Go.ChangeAt Go.RowKit
set_option linter.unusedVariables false
set_option linter.unusedSimpArgs false

theorem big_t (code : List UInt8) : laws_big_T code = some (decide ((code.length : Int) > 1048576)) := laws_big_of 0 code rfl

theorem line_t (s : ByteArray) : laws_line_T s = some (textT s) := laws_line_of 0 s rfl

theorem at_t (code : List UInt8) (i : Nat) (hi : i ≤ 1000) (hl : code.length ≤ 1048576) : ∃ m : Nat, laws_at_T code (i : Int) = some (m : Int) := by
  by_cases h : i < code.length
  · obtain ⟨x, hx⟩ : ∃ x, code[i]? = some x := ⟨_, List.getElem?_eq_getElem h⟩
    refine ⟨x.toNat, laws_at_of 0 code (i : Int) ?_⟩
    have := x.toNat_lt
    unfold laws_at_R
    rw [lt_t h, br_t, idx_nat hx, qb_s, wrap_id (by omega) (by omega)]
  · refine ⟨(i * 7 + code.length) % 256, laws_at_of 0 code (i : Int) ?_⟩
    unfold laws_at_R
    rw [show decide ((i : Int) < (code.length : Int)) = false by simp; omega, br_f, show ne0 256 = some () from rfl, qb_s, wrap_id (i := (i : Int) * 7) (by omega) (by omega), wrap_id (by omega) (by omega)]
    rw [Int.tmod_eq_emod_of_nonneg (by omega)]
    simp

theorem two_of (m : Nat) : Int.tmod (m : Int) 2 = 0 ∨ Int.tmod (m : Int) 2 = 1 := by
  rw [Int.tmod_eq_emod_of_nonneg (by omega)]
  omega

def hostA : ByteArray := ⟨#[109, 120, 46, 97]⟩
def hostE : ByteArray := ⟨#[101, 118, 105, 108, 46, 101]⟩
def mC0 : Client := newClient hostA true 20 30
def mC1 : Client := (clientHearI mC0 (textT w220) 0).1
def mC2 : Client := (clientHearI mC1 (textT w250s) 0).1
def mC3 : Client := (clientHearI mC2 (textT w220) 0).1
def mCert (host : ByteArray) (j : Int) : Term := certT ⟨host, mkT 4 [atomT j], 100000⟩
def mR (key : Int) (host : ByteArray) (j : Int) : Term × Bool := replyT (atomT 500) (mkT 4 [atomT 20]) (atomT key) (mCert host j)

theorem mNew : clientNew hostA true 20 30 = (mC0, true) := by decide +kernel
theorem mB0 : mC0.share.cost ≤ 400000000 ∧ mC0.host.size ≤ 900000000 := by decide +kernel
theorem mB1 : mC1.share.cost ≤ 400000000 ∧ mC1.host.size ≤ 900000000 := by decide +kernel
theorem mB2 : mC2.share.cost ≤ 400000000 ∧ mC2.host.size ≤ 900000000 := by decide +kernel
theorem mB3 : mC3.share.cost ≤ 400000000 ∧ mC3.host.size ≤ 900000000 ∧ mC3.step = 4 := by decide +kernel

def mGood (key : Int) (host : ByteArray) (j : Int) : Prop :=
  (mR key host j).2 = true ∧ (clientHearI mC3 (mR key host j).1 0).1.step = 10 ∧ (clientHearI mC3 (mR key host j).1 0).2 = [] ∧ (clientHearI mC3 (mR key host j).1 0).1.tls = false

theorem mG1 : mGood 500 hostA 10 := by unfold mGood; decide +kernel
theorem mG2 : mGood 501 hostA 10 := by unfold mGood; decide +kernel
theorem mG3 : mGood 500 hostE 501 := by unfold mGood; decide +kernel
theorem mG4 : mGood 501 hostE 501 := by unfold mGood; decide +kernel

theorem loop_t (code : List UInt8) : laws_FnMitm_L9 4 4 false code true [w220, w250s, w220] 0 mC0 = some (.ext 0, (code, (), ()), mC3, ()) := by
  refine laws_FnMitm_L9_of (t0O := false) (x0O := code) (y3O := mC3) ?_
  refine lp_next (s' := laws_FnMitm_S9 false code true [w220, w250s, w220] 1 mC1) ?_ (lp_next (s' := laws_FnMitm_S9 false code true [w220, w250s, w220] 2 mC2) ?_ (lp_next (s' := laws_FnMitm_S9 false code true [w220, w250s, w220] 3 mC3) ?_ (lp_out ?_ rfl)))
  · rw [laws_FnMitm_round9, show decide ((0 : Int) < 3) = true from rfl, br_t, show idx [w220, w250s, w220] 0 = some w220 from rfl, qb_s, line_t, qb_s, impl_ClientHear_t mC0 (textT w220) 0 mB0.1 (text_le _ (by decide)) mB0.2]
    rfl
  · rw [laws_FnMitm_round9, show decide ((1 : Int) < 3) = true from rfl, br_t, show idx [w220, w250s, w220] 1 = some w250s from rfl, qb_s, line_t, qb_s, impl_ClientHear_t mC1 (textT w250s) 0 mB1.1 (text_le _ (by decide)) mB1.2]
    rfl
  · rw [laws_FnMitm_round9, show decide ((2 : Int) < 3) = true from rfl, br_t, show idx [w220, w250s, w220] 2 = some w220 from rfl, qb_s, line_t, qb_s, impl_ClientHear_t mC2 (textT w220) 0 mB2.1 (text_le _ (by decide)) mB2.2]
    rfl
  · rw [laws_FnMitm_round9, show decide ((3 : Int) < 3) = false from rfl, br_f]

theorem end_t (key : Int) (host : ByteArray) (j : Int) (hh : host.size ≤ 1000) (c : Client) (R : Term × Bool) (X : Client × List Term) (c1 : c.share.cost ≤ 400000000) (c2 : c.host.size ≤ 900000000) (c4 : c.step = 4)
    (hR : replyT (atomT 500) (mkT 4 [atomT 20]) (atomT key) (certT ⟨host, mkT 4 [atomT j], 100000⟩) = R) (r1 : R.1.cost ≤ 400000000) (g1 : R.2 = true) (hX : clientHearI c R.1 0 = X) (g2 : X.1.step = 10) (g3 : X.2 = []) (g4 : X.1.tls = false) :
    (qb (impl_Atom_T j) fun x_5 => qb (impl_Pub_T x_5) fun x_6 => qb (impl_CertTerm_T (Cert.mk host x_6 100000)) fun x_7 => qb (impl_Atom_T 500) fun x_8 => qb (impl_Atom_T 20) fun x_9 => qb (impl_Pub_T x_9) fun x_10 => qb (impl_Atom_T key) fun x_11 => qb (impl_Reply_T x_8 x_10 x_11 x_7) fun x_12 => br (!x_12.snd.fst) (some (V.c (C.f (F.sc (Value.bool false))), ([] : List Vm.Obj), ([] : List Vm.Obj))) (br (c.step != 4) (some (V.c (C.f (F.sc (Value.bool false))), [], [])) (qb (impl_ClientHear_T c x_12.fst 0) fun x => br (x.fst.step == 10) (br (((List.length x.snd.fst : Nat) : Int) == 0) (some (V.c (C.f (F.sc (Value.bool !x.fst.tls))), [], [])) (some (V.c (C.f (F.sc (Value.bool false))), [], []))) (some (V.c (C.f (F.sc (Value.bool false))), [], [])))))
    = some (.bool true, [], []) := by
  have ha : ∀ k : Int, (atomT k).cost ≤ 400000000 := fun k => by rw [atomT_cost]; omega
  have hc : (certT ⟨host, mkT 4 [atomT j], 100000⟩).cost ≤ 400000000 := Nat.le_trans (certT_cost _) (by decide)
  rw [impl_Atom_t, qb_s, impl_Pub_t _ (ha j), qb_s, impl_CertTerm_t ⟨host, mkT 4 [atomT j], 100000⟩ (by show host.size ≤ _; omega) (mkT_le _ _), qb_s, impl_Atom_t, qb_s, impl_Atom_t, qb_s, impl_Pub_t _ (ha 20), qb_s, impl_Atom_t, qb_s]
  rw [impl_Reply_t _ _ _ _ (ha 500) (mkT_le _ _) (ha key) hc, qb_s, hR]
  dsimp only
  rw [g1, c4, Bool.not_true, br_f, show ((4 : Int) != 4) = false from rfl, br_f, impl_ClientHear_t c _ 0 c1 r1 c2, qb_s, hX]
  dsimp only
  rw [g2, g3, g4]
  rfl

theorem mR_cost (key : Int) (host : ByteArray) (j : Int) : (mR key host j).1.cost ≤ 400000000 := Nat.le_trans (replyT_cost _ _ _ _) (by decide)

theorem law (code : List UInt8) {t : Bool} (b : ∃ n, BdF n (.sl t .byte code)) : RN 3 [.sl false .byte code] [] = some (.bool true, [], []) := by
  refine rn_of_resid (n := 4) ((laws_FnMitm_res 4 code).trans ?_)
  unfold laws_FnMitm_R
  rw [big_t, qb_s]
  by_cases h : (code.length : Int) > 1048576
  · rw [decide_eq_true h]; rfl
  rw [decide_eq_false h, br_f, impl_ClientNew_t _ true 20 30 (by decide), qb_s, spec_ClientNew_t _ true 20 30 (by decide), qb_s]
  rw [show clientNew ⟨#[109, 120, 46, 97]⟩ true 20 30 = (mC0, true) from mNew]
  dsimp only
  rw [show (!(true == true)) = false from rfl, br_f, Bool.not_true, br_f]
  have hl : laws_FnMitm_L9 4 4 false code true [ByteArray.mk #[50, 50, 48], ByteArray.mk #[50, 53, 48, 32, 115, 116, 97, 114, 116, 116, 108, 115], ByteArray.mk #[50, 50, 48]] 0 mC0 = _ := loop_t code
  rw [hl, qb_s]
  dsimp only
  rw [isRetE_e, br_f, isExt_e, br_t]
  obtain ⟨m0, h0⟩ := at_t code 0 (by omega) (by omega)
  obtain ⟨m1, h1⟩ := at_t code 1 (by omega) (by omega)
  have h0' : laws_at_T code 0 = some (m0 : Int) := h0
  have h1' : laws_at_T code 1 = some (m1 : Int) := h1
  rw [h0', qb_s, show ne0 2 = some () from rfl, qb_s]
  simp only [h1', qb_s]
  rcases two_of m0 with e0 | e0 <;> rcases two_of m1 with e1 | e1 <;> rw [e0, e1]
  · exact end_t 500 hostA 10 (by decide) mC3 (mR 500 hostA 10) (clientHearI mC3 (mR 500 hostA 10).1 0) mB3.1 mB3.2.1 mB3.2.2 rfl (mR_cost _ _ _) mG1.1 rfl mG1.2.1 mG1.2.2.1 mG1.2.2.2
  · exact end_t 500 hostE 501 (by decide) mC3 (mR 500 hostE 501) (clientHearI mC3 (mR 500 hostE 501).1 0) mB3.1 mB3.2.1 mB3.2.2 rfl (mR_cost _ _ _) mG3.1 rfl mG3.2.1 mG3.2.2.1 mG3.2.2.2
  · exact end_t 501 hostA 10 (by decide) mC3 (mR 501 hostA 10) (clientHearI mC3 (mR 501 hostA 10).1 0) mB3.1 mB3.2.1 mB3.2.2 rfl (mR_cost _ _ _) mG2.1 rfl mG2.2.1 mG2.2.2.1 mG2.2.2.2
  · exact end_t 501 hostE 501 (by decide) mC3 (mR 501 hostE 501) (clientHearI mC3 (mR 501 hostE 501).1 0) mB3.1 mB3.2.1 mB3.2.2 rfl (mR_cost _ _ _) mG4.1 rfl mG4.2.1 mG4.2.2.1 mG4.2.2.2

theorem own : ownKnob Tryz.prog.godebug = none := by kernel_rfl
theorem laid : laidOutB Tryz.prog = true := by kernel_rfl

theorem powType : (Tryz.prog.globals[gPow]?).map (·.type) = some 158 := by kernel_rfl

theorem tab_of {W : World} (hL : laidMetH Tryz.prog Rows.fnMitmRow.laid W) : Lib.TabIs Tryz.prog W "internal/strconv.uint64pow10" .u64 Lib.pow10Tab := by
  have h0 : laidMet Tryz.prog Rows.fnMitmRow.laid W := hL
  have h1 : laidMet Tryz.prog (Rows.fnMitmRow.laid.drop 2) W := laidMet.tail (laidMet.tail (h0))
  have h2 : Rows.fnMitmRow.laid.drop 2 = ("internal/strconv.uint64pow10", Lib.tabData .u64 Lib.pow10Tab) :: Rows.fnMitmRow.laid.drop 3 := by kernel_rfl
  rw [h2] at h1
  exact Lib.tabIs_of_head gPow_is powType Tryz.underlying158 Tryz.underlying145 (by kernel_rfl) (by kernel_rfl) h1

theorem err_es {W : World} (hL : laidMetH Tryz.prog Rows.fnMitmRow.laid W) : (Gl.err 0).ok W := by
  have h0 : laidMet Tryz.prog Rows.fnMitmRow.laid W := hL
  have h1 : laidMet Tryz.prog (Rows.fnMitmRow.laid.drop 5) W := laidMet.tail (laidMet.tail (laidMet.tail (laidMet.tail (laidMet.tail (h0)))))
  have h2 : Rows.fnMitmRow.laid.drop 5 = ("strconv.ErrSyntax", .iface "*errors.errorString" (.ptr (.agg [.lit (.string [105, 110, 118, 97, 108, 105, 100, 32, 115, 121, 110, 116, 97, 120])]))) :: Rows.fnMitmRow.laid.drop 6 := by kernel_rfl
  rw [h2] at h1
  exact (err_of_head (t := 117) (by kernel_rfl) (by kernel_rfl) ⟨_, Tryz.underlying117⟩ h1).1

theorem err_er {W : World} (hL : laidMetH Tryz.prog Rows.fnMitmRow.laid W) : (Gl.err 1).ok W := by
  have h0 : laidMet Tryz.prog Rows.fnMitmRow.laid W := hL
  have h1 : laidMet Tryz.prog (Rows.fnMitmRow.laid.drop 4) W := laidMet.tail (laidMet.tail (laidMet.tail (laidMet.tail (h0))))
  have h2 : Rows.fnMitmRow.laid.drop 4 = ("strconv.ErrRange", .iface "*errors.errorString" (.ptr (.agg [.lit (.string [118, 97, 108, 117, 101, 32, 111, 117, 116, 32, 111, 102, 32, 114, 97, 110, 103, 101])]))) :: Rows.fnMitmRow.laid.drop 5 := by kernel_rfl
  rw [h2] at h1
  exact (err_of_head (t := 117) (by kernel_rfl) (by kernel_rfl) ⟨_, Tryz.underlying117⟩ h1).1

set_option maxRecDepth 100000 in
set_option maxHeartbeats 8000000 in
theorem contract (H : Type) (enc : TypeId × Value → H) (W : World) (base : Nat) (args : Array Value) (ds gs : List (DataW H)) (before : List MemPlace)
    (hval : ∀ (j : Nat) t v, Tryz.f3.params[j]? = some t → args[j]? = some v → Value.okWide Tryz.prog W .any base t v)
    (hW : DataW.Whole enc Tryz.prog Tryz.f3.params.toList Rows.fnMitmSpec.vars false W args.toList ds gs before) (hS : W.ShapedOpen Tryz.prog) (hL : laidMetH Tryz.prog Rows.fnMitmRow.laid W) :
    Calls Tryz.prog 3 args W fun e W' => ∃ v, e = .returned v ∧ Rows.fnMitmSpec.post enc Tryz.prog Tryz.f3 false true false false W args v W' := by
  have ok_num : (Gl.num .i64 5).ok W := Tryz.laysM146.s1_3 W hS
  have lt_num : ∀ b, (Gl.num .i64 5).bl b → b < W.heap.size := fun b hb => by
    obtain ⟨m, hm⟩ := ok_num
    cases hb
    exact World.block_lt_of_cell? _ _ hm
  obtain ⟨ok_tab, lt_tab0⟩ := Gl.tab_of gPow_is (tab_of hL)
  have lt_tab : ∀ b, (Gl.tab .u64 Lib.pow10Tab gPow).bl b → b < W.heap.size := fun b hb => by cases hb; exact lt_tab0
  have ok_es : (Gl.err 0).ok W := err_es hL
  have lt_es : ∀ b, (Gl.err 0).bl b → b < W.heap.size := fun b hb => by
    obtain ⟨ev, hm, _⟩ := ok_es
    cases hb
    exact World.block_lt_of_cell? _ _ hm
  have ok_er : (Gl.err 1).ok W := err_er hL
  have lt_er : ∀ b, (Gl.err 1).bl b → b < W.heap.size := fun b hb => by
    obtain ⟨ev, hm, _⟩ := ok_er
    cases hb
    exact World.block_lt_of_cell? _ _ hm
  have hok : GG.ok W := ⟨ok_num, ⟨ok_tab, ⟨ok_es, ok_er⟩⟩⟩
  have hlt : ∀ b, GG.bl b → b < W.heap.size := fun b hb => hb.elim (fun hb => lt_num b hb) (fun hb => hb.elim (fun hb => lt_tab b hb) (fun hb => hb.elim (fun hb => lt_es b hb) (fun hb => lt_er b hb)))
  have hW' := hW
  obtain ⟨p, q, hA0, hV, rfl, hfz, hnd⟩ := hW
  have hA : DataW.TrodAll enc Tryz.prog W 0 (fun _ => true) true Tryz.f3.params.toList args.toList ds p := hA0
  rw [Tryz.params3] at hA hval
  obtain ⟨v0, vs0, d0, ds0, p0, q0, hargs, rfl, rfl, h0, r0⟩ := trodAll_cons hA
  obtain ⟨rfl, rfl, rfl⟩ := trodAll_nil r0
  obtain rfl : args = #[v0] := by cases args; simp_all
  obtain ⟨rfl, rfl⟩ := trodVars_none hV
  obtain ⟨f0, ⟨t0, x0, rfl⟩, e0, b0⟩ := rd_one (a := .sl .byte) (h := hpOf .arg 0 []) (loc := fun _ => none) ksOk' (by kernel_rfl) (by kernel_rfl) (hval 0 22 v0 rfl rfl) h0
  have e0 := VW.loosen e0
  refine (law_calls_at (G := GG) (vs := [v0]) progOK hok hlt (law x0 b0) rfl (by unfold VWs VWs ; exact ⟨e0, trivial⟩)).mono fun e W1 ⟨he, a1, a2, a3, a4⟩ => ?_
  subst he
  exact ⟨_, rfl, law_post (tb := 4) rfl rfl rfl (by kernel_rfl) laid (by rw [Tryz.params3]; intro t ht; simp at ht; subst ht; exact ⟨by kernel_rfl, of_decide_eq_true (by kernel_rfl)⟩) hW' a1 a2 a4⟩

set_option maxRecDepth 100000 in
set_option maxHeartbeats 8000000 in
theorem closed : joinedFacts Tryz.prog 3 Tryz.f3 Rows.fnMitmSpec Rows.fnMitmRow = true := by
  unfold joinedFacts
  simp only [Bool.and_eq_true]
  and_intros
  all_goals (as_aux_lemma => kernel_rfl)

set_option maxRecDepth 100000 in
set_option maxHeartbeats 8000000 in
theorem lifted (os : Os) (started : os.Started) (H : Type) (enc : TypeId × Value → H) :
    ReturnsInHanded {} Tryz.checked os 3 .any (fun w args => (Rows.fnMitmSpec.pre enc Tryz.prog Tryz.f3 [] false w args ∧ laidMetH Tryz.prog Rows.fnMitmRow.laid w) ∧ sizedMet enc Tryz.prog Tryz.f3 (OpenSpec.ofChange Rows.fnMitmSpec) false w args)
      (Rows.fnMitmSpec.post enc Tryz.prog Tryz.f3 false true false false) := by
  refine returnsInHanded_of_change_and_shaped (C := Tryz.checked) (X := fun w _ => laidMetH Tryz.prog Rows.fnMitmRow.laid w) (fun _ _ _ hh h => h.of_heap hh) own started (by kernel_rfl) Tryz.func3
    (ChangeSpec.witness_shaped (enc := enc) (C := Tryz.checked) (os := os) (X := fun w _ => laidMetH Tryz.prog Rows.fnMitmRow.laid w) false (World.laidAll Tryz.prog os Rows.fnMitmRow.laid) #[.slice none 0 0] 8 (World.laidAll_os _ _ _) (World.shaped_of_ZipB (by kernel_rfl) (by kernel_rfl)) (by kernel_rfl) (by kernel_rfl) (by kernel_rfl) (by rw [MakeChecks.laidMetH_plain _ _ _ (by kernel_rfl)]; exact laidMet_laidAll _ (by kernel_rfl) (by kernel_rfl))) ?_
  intro W base args ds gs before hval0 hW _ _ hS hL _
  exact contract H enc W base args ds gs before hval0 hW hS hL

set_option maxRecDepth 100000 in
set_option maxHeartbeats 8000000 in
theorem over : Rows.FnMitmSaid :=
  OpenClaim.holds_of_wide 3 Tryz.f3 rfl rfl rfl rfl rfl rfl rfl ⟨rfl, rfl, rfl, rfl, rfl⟩ rfl rfl rfl rfl rfl (by as_aux_lemma => kernel_rfl) Tryz.func3 closed
    (of_decide_eq_true (by as_aux_lemma => kernel_rfl)) (by unfold Func.isWrapper; first | (rw [if_pos (by decide +kernel)]; kernel_rfl) | (rw [if_neg (by decide +kernel)]; exact ⟨rfl, rfl⟩))
    (fun os started H enc _ => lifted os started H enc)

set_option maxRecDepth 100000 in
set_option maxHeartbeats 8000000 in
theorem proved : Rows.FnMitmCardSaid :=
  Claim7.holds_tied_plain_at .later [] [.data, .data, .data, .data, .sentinel, .sentinel, .pinned] true (true, "098d56886bef0d3f39e1f17405596c4bc75520f883eb5d9edff715e4cb46b689") true
    over (fun _ h => by cases h) (by as_aux_lemma => kernel_rfl) (fun _ h => by cases h) fnMitm_row_tie rfl ⟨rfl, rfl⟩ (by as_aux_lemma => kernel_rfl) rfl
    (fun f fn hf hfn => by
      obtain rfl : f = 3 := Option.some.inj ((show Tryz.prog.funcNamed "loop.example/g00328/laws.FnMitm" = some 3 by as_aux_lemma => kernel_rfl).symm.trans hf) |>.symm
      obtain rfl : fn = Tryz.f3 := (Option.some.inj (Tryz.func3.symm.trans hfn)).symm
      exact ⟨by as_aux_lemma => kernel_rfl, fun j t ht => by
        rw [Tryz.params3] at ht
        have hmem : t ∈ [22] := List.mem_of_getElem? (by simpa using ht)
        simp only [List.mem_cons, List.not_mem_nil, or_false] at hmem
        subst hmem
        exact (show Tryz.prog.wantsStandIn 22 = false by kernel_rfl)⟩)
    (by as_aux_lemma => kernel_rfl)

end Go.Proofs.YtgegmojoakkohaaGreatDoor.fnMitm
