/-
  FnReplies: for every row of bytes the law answers true, and its argument reads as before.
-/
import Derived.Test.YtgegmojoakkohaaGreatDoorRpRd
import Derived.Test.YtgegmojoakkohaaGreatDoorVm6
import Derived.Test.YtgegmojoakkohaaGreatDoorTie
import Derived.Test.YtgegmojoakkohaaGreatDoorCards
import Derived.OpenShut
import Derived.WalkKit
import Derived.ProofKit
import Derived.LaidMore
import Derived.Lay
import Derived.Stop.LaidErr
import Derived.Stop.Joined
import Derived.SevenTiedAt
namespace Go.Proofs.YtgegmojoakkohaaGreatDoor.fnReplies
open Go.Vm Go.ChangeShapes Go.WideShapes Go.ChangeAt Go.RowKit
set_option linter.unusedVariables false
set_option linter.unusedSimpArgs false

theorem big_t (code : List UInt8) : laws_big_T code = some (decide ((code.length : Int) > 1048576)) := laws_big_of 0 code rfl

theorem same_self (t : Term) (h : t.cost ≤ 400000000) : impl_Same_T t t = some true := by
  rw [impl_Same_t t (by omega) t, decide_eq_true rfl]

theorem parts_aux {A : Bool} {q : Term} {x : Term × Bool} (hx : x = if A = true ∧ q.op = 3 then (q, true) else (zeroT, false)) (h : x.2 = true) : A = true ∧ q.op = 3 ∧ x.1 = q := by
  by_cases g : A = true ∧ q.op = 3
  · rw [if_pos g] at hx
    subst hx
    exact ⟨g.1, g.2, rfl⟩
  · rw [if_neg g] at hx
    subst hx
    cases h

theorem replyT_eq {s p k c : Term} : replyT s p k c = if (agree s p).2 = true ∧ (replyRaw s p k c).op = 3 then (replyRaw s p k c, true) else (zeroT, false) := by unfold replyT; with_reducible rfl

theorem replyT_parts {s p k c : Term} (h : (replyT s p k c).2 = true) : (agree s p).2 = true ∧ (replyRaw s p k c).op = 3 ∧ (replyT s p k c).1 = replyRaw s p k c :=
  parts_aux replyT_eq h

theorem agree_form {s p : Term} (h : (agree s p).2 = true) : ∃ k, p = Term.mk 4 0 ⟨#[]⟩ [k] ∧ k.ok = true := by
  unfold agree at h
  split at h
  · rename_i g
    exact Term.pub_form g.2 g.1
  · cases h

theorem law (code : List UInt8) {t : Bool} (b : ∃ n, BdF n (.sl t .byte code)) : RN 4 [.sl false .byte code] [] = some (.bool true, [], []) := by
  refine rn_of_resid (n := 0) ((laws_FnReplies_res 0 code).trans ?_)
  unfold laws_FnReplies_R
  rw [big_t, qb_s]
  by_cases h : (code.length : Int) > 1048576
  · rw [decide_eq_true h]; rfl
  obtain ⟨s, p, k, c, e1, hs, hp, hk, hc⟩ := spec_DrawReply_t code (by omega)
  obtain ⟨e, x, e2, he, hx⟩ := spec_DrawReplyOf_t code (by omega)
  obtain ⟨pe, pp, pc, ps, host, now, e3, h1, h2, h3, h4⟩ := spec_DrawProved_t code (by omega)
  obtain ⟨n, e4, hn⟩ := spec_DrawHelloOf_t code (by omega)
  obtain ⟨u, e5, hu⟩ := spec_DrawHello_t code (by omega)
  obtain ⟨v, e6, hv⟩ := spec_DrawDone_t code (by omega)
  obtain ⟨y, z, e7, hy, hz⟩ := spec_DrawBoth_t code (by omega)
  have a1 := impl_Reply_t s p k c (by omega) (by omega) (by omega) (by omega)
  have a2 := spec_Reply_t s p k c (by omega) (by omega) (by omega) (by omega)
  have a3 := impl_ReplyOf_t e x (by omega) (by omega)
  have a4 := spec_ReplyOf_t e x (by omega) (by omega)
  have a5 := impl_HelloOf_t n (by omega)
  have a6 := spec_HelloOf_t n (by omega)
  have a7 := impl_Proved_t pe pp pc ps host now (by omega) (by omega) (by omega) (by omega)
  have a8 := spec_Proved_t pe pp pc ps host now (by omega) (by omega) (by omega) (by omega)
  have a9 := impl_Hello_t u (by omega)
  have a10 := spec_Hello_t u (by omega)
  have a11 := impl_Done_t v (by omega)
  have a12 := spec_Done_t v (by omega)
  have a13 := impl_Both_t y z (by omega) (by omega)
  have a14 := spec_Both_t y z (by omega) (by omega)
  have a15 := impl_CertGood_t pc host now (by omega)
  have hrc := replyT_cost s p k c
  obtain ⟨r1, r2, r3, r4⟩ := replyOf_cost e x
  have hhc := helloOf_cost n
  have b1 := same_self (replyT s p k c).1 (by omega)
  have b2 := same_self (replyOf e x).1 (by omega)
  have b3 := same_self (replyOf e x).2.1 (by omega)
  have b4 := same_self (replyOf e x).2.2.1 (by omega)
  have b5 := same_self (replyOf e x).2.2.2.1 (by omega)
  have b6 := same_self (helloOf n).1 (by omega)
  have b7 := same_self (helloT u) (Nat.le_trans (mkT_cost _ _) (by decide))
  have b8 := same_self (doneT v) (Nat.le_trans (mkT_cost _ _) (by decide))
  have b9 := same_self (bothT y z) (Nat.le_trans (mkT_cost _ _) (by decide))
  rw [decide_eq_false h, br_f]
  simp only [e1, e2, e3, e4, e5, e6, e7, a1, a2, a3, a4, a5, a6, a7, a8, a9, a10, a11, a12, a13, a14, a15, b1, b2, b3, b4, b5, b6, b7, b8, b9, qb_s, beq_self_eq_true, Bool.not_true, br_f,
    impl_TermOk_t c (show c.cost < 4611686018427387900 by omega), impl_TermOk_t k (show k.cost < 4611686018427387900 by omega)]
  have hpg : proved pe pp pc ps host now = true → (certGood pc host now).2 = true := by
    intro g
    unfold proved at g
    rw [Bool.and_eq_true] at g
    exact g.1
  generalize proved pe pp pc ps host now = pr at hpg
  have hag := impl_Agree_t s p (by omega) (by omega)
  cases hok : (replyT s p k c).2 with
  | false =>
    simp only [Bool.not_false, br_t]
    cases pr with
    | false => rfl
    | true => rw [hpg rfl]; rfl
  | true =>
    simp only [Bool.not_true, br_f]
    obtain ⟨g1, g2, g3⟩ := replyT_parts hok
    obtain ⟨j, rfl, hj⟩ := agree_form g1
    have hraw := replyOf_raw (s := s) (key := k) (cert := c) (k := j) g1 g2
    have hjc := Term.cost_ok hj
    have c1 := impl_ReplyOf_t j (replyT s (Term.mk 4 0 ⟨#[]⟩ [j]) k c).1 (by omega) (by omega)
    rw [g3, hraw] at c1
    have hgc := agree_cost s (Term.mk 4 0 ⟨#[]⟩ [j])
    have hm4 : (mkT 4 [s]).cost ≤ 400000000 := Nat.le_trans (mkT_cost _ _) (by decide)
    have hbo : (bothT (Term.mk 4 0 ⟨#[]⟩ [j]) (mkT 4 [s])).cost ≤ 400000000 := Nat.le_trans (mkT_cost _ _) (by decide)
    have d1 := same_self (mkT 4 [s]) hm4
    have d2 := same_self (agree s (Term.mk 4 0 ⟨#[]⟩ [j])).1 (by omega)
    have d3 := same_self c (by omega)
    have d4 := same_self (mkT 8 [k, bothT (Term.mk 4 0 ⟨#[]⟩ [j]) (mkT 4 [s])]) (Nat.le_trans (mkT_cost _ _) (by decide))
    simp only [show idx [j] 0 = some j from rfl, g3, c1, hag, impl_Pub_t s (show s.cost ≤ 400000000 by omega), impl_Both_t (Term.mk 4 0 ⟨#[]⟩ [j]) (mkT 4 [s]) (by omega) hm4, impl_Sign_t k (bothT (Term.mk 4 0 ⟨#[]⟩ [j]) (mkT 4 [s])) (by omega) hbo, qb_s, d1, d2, d3, d4, br_t]
    cases pr with
    | false => cases c.ok <;> cases k.ok <;> rfl
    | true => rw [hpg rfl]; cases c.ok <;> cases k.ok <;> rfl

theorem own : ownKnob Tryz.prog.godebug = none := by kernel_rfl
theorem laid : laidOutB Tryz.prog = true := by kernel_rfl

theorem powType : (Tryz.prog.globals[gPow]?).map (·.type) = some 158 := by kernel_rfl

theorem tab_of {W : World} (hL : laidMetH Tryz.prog Rows.fnRepliesRow.laid W) : Lib.TabIs Tryz.prog W "internal/strconv.uint64pow10" .u64 Lib.pow10Tab := by
  have h0 : laidMet Tryz.prog Rows.fnRepliesRow.laid W := hL
  have h1 : laidMet Tryz.prog (Rows.fnRepliesRow.laid.drop 2) W := laidMet.tail (laidMet.tail (h0))
  have h2 : Rows.fnRepliesRow.laid.drop 2 = ("internal/strconv.uint64pow10", Lib.tabData .u64 Lib.pow10Tab) :: Rows.fnRepliesRow.laid.drop 3 := by kernel_rfl
  rw [h2] at h1
  exact Lib.tabIs_of_head gPow_is powType Tryz.underlying158 Tryz.underlying145 (by kernel_rfl) (by kernel_rfl) h1

theorem err_es {W : World} (hL : laidMetH Tryz.prog Rows.fnRepliesRow.laid W) : (Gl.err 0).ok W := by
  have h0 : laidMet Tryz.prog Rows.fnRepliesRow.laid W := hL
  have h1 : laidMet Tryz.prog (Rows.fnRepliesRow.laid.drop 5) W := laidMet.tail (laidMet.tail (laidMet.tail (laidMet.tail (laidMet.tail (h0)))))
  have h2 : Rows.fnRepliesRow.laid.drop 5 = ("strconv.ErrSyntax", .iface "*errors.errorString" (.ptr (.agg [.lit (.string [105, 110, 118, 97, 108, 105, 100, 32, 115, 121, 110, 116, 97, 120])]))) :: Rows.fnRepliesRow.laid.drop 6 := by kernel_rfl
  rw [h2] at h1
  exact (err_of_head (t := 117) (by kernel_rfl) (by kernel_rfl) ⟨_, Tryz.underlying117⟩ h1).1

theorem err_er {W : World} (hL : laidMetH Tryz.prog Rows.fnRepliesRow.laid W) : (Gl.err 1).ok W := by
  have h0 : laidMet Tryz.prog Rows.fnRepliesRow.laid W := hL
  have h1 : laidMet Tryz.prog (Rows.fnRepliesRow.laid.drop 4) W := laidMet.tail (laidMet.tail (laidMet.tail (laidMet.tail (h0))))
  have h2 : Rows.fnRepliesRow.laid.drop 4 = ("strconv.ErrRange", .iface "*errors.errorString" (.ptr (.agg [.lit (.string [118, 97, 108, 117, 101, 32, 111, 117, 116, 32, 111, 102, 32, 114, 97, 110, 103, 101])]))) :: Rows.fnRepliesRow.laid.drop 5 := by kernel_rfl
  rw [h2] at h1
  exact (err_of_head (t := 117) (by kernel_rfl) (by kernel_rfl) ⟨_, Tryz.underlying117⟩ h1).1

set_option maxRecDepth 100000 in
set_option maxHeartbeats 8000000 in
theorem contract (H : Type) (enc : TypeId × Value → H) (W : World) (base : Nat) (args : Array Value) (ds gs : List (DataW H)) (before : List MemPlace)
    (hval : ∀ (j : Nat) t v, Tryz.f4.params[j]? = some t → args[j]? = some v → Value.okWide Tryz.prog W .any base t v)
    (hW : DataW.Whole enc Tryz.prog Tryz.f4.params.toList Rows.fnRepliesSpec.vars false W args.toList ds gs before) (hS : W.ShapedOpen Tryz.prog) (hL : laidMetH Tryz.prog Rows.fnRepliesRow.laid W) :
    Calls Tryz.prog 4 args W fun e W' => ∃ v, e = .returned v ∧ Rows.fnRepliesSpec.post enc Tryz.prog Tryz.f4 false true false false W args v W' := by
  have ok_num : (Gl.num .i64 5).ok W := Tryz.laysM146.s1_3 W hS
  have lt_num : ∀ b, (Gl.num .i64 5).bl b → b < W.heap.size := fun b hb => by
    obtain ⟨m, hm⟩ := ok_num
    cases hb
    exact World.block_lt_of_cell? _ _ hm
  obtain ⟨ok_tab, lt_tab0⟩ := Gl.tab_of gPow_is (tab_of hL)
  have lt_tab : ∀ b, (Gl.tab .u64 Lib.pow10Tab gPow).bl b → b < W.heap.size := fun b hb => by cases hb; exact lt_tab0
  have ok_es : (Gl.err 0).ok W := err_es hL
  have lt_es : ∀ b, (Gl.err 0).bl b → b < W.heap.size := fun b hb => by
    obtain ⟨ev, hm, _⟩ := ok_es
    cases hb
    exact World.block_lt_of_cell? _ _ hm
  have ok_er : (Gl.err 1).ok W := err_er hL
  have lt_er : ∀ b, (Gl.err 1).bl b → b < W.heap.size := fun b hb => by
    obtain ⟨ev, hm, _⟩ := ok_er
    cases hb
    exact World.block_lt_of_cell? _ _ hm
  have hok : GG.ok W := ⟨ok_num, ⟨ok_tab, ⟨ok_es, ok_er⟩⟩⟩
  have hlt : ∀ b, GG.bl b → b < W.heap.size := fun b hb => hb.elim (fun hb => lt_num b hb) (fun hb => hb.elim (fun hb => lt_tab b hb) (fun hb => hb.elim (fun hb => lt_es b hb) (fun hb => lt_er b hb)))
  have hW' := hW
  obtain ⟨p, q, hA0, hV, rfl, hfz, hnd⟩ := hW
  have hA : DataW.TrodAll enc Tryz.prog W 0 (fun _ => true) true Tryz.f4.params.toList args.toList ds p := hA0
  rw [Tryz.params4] at hA hval
  obtain ⟨v0, vs0, d0, ds0, p0, q0, hargs, rfl, rfl, h0, r0⟩ := trodAll_cons hA
  obtain ⟨rfl, rfl, rfl⟩ := trodAll_nil r0
  obtain rfl : args = #[v0] := by cases args; simp_all
  obtain ⟨rfl, rfl⟩ := trodVars_none hV
  obtain ⟨f0, ⟨t0, x0, rfl⟩, e0, b0⟩ := rd_one (a := .sl .byte) (h := hpOf .arg 0 []) (loc := fun _ => none) ksOk' (by kernel_rfl) (by kernel_rfl) (hval 0 22 v0 rfl rfl) h0
  have e0 := VW.loosen e0
  refine (law_calls_at (G := GG) (vs := [v0]) progOK hok hlt (law x0 b0) rfl (by unfold VWs VWs ; exact ⟨e0, trivial⟩)).mono fun e W1 ⟨he, a1, a2, a3, a4⟩ => ?_
  subst he
  exact ⟨_, rfl, law_post (tb := 4) rfl rfl rfl (by kernel_rfl) laid (by rw [Tryz.params4]; intro t ht; simp at ht; subst ht; exact ⟨by kernel_rfl, of_decide_eq_true (by kernel_rfl)⟩) hW' a1 a2 a4⟩

set_option maxRecDepth 100000 in
set_option maxHeartbeats 8000000 in
theorem closed : joinedFacts Tryz.prog 4 Tryz.f4 Rows.fnRepliesSpec Rows.fnRepliesRow = true := by
  unfold joinedFacts
  simp only [Bool.and_eq_true]
  and_intros
  all_goals (as_aux_lemma => kernel_rfl)

set_option maxRecDepth 100000 in
set_option maxHeartbeats 8000000 in
theorem lifted (os : Os) (started : os.Started) (H : Type) (enc : TypeId × Value → H) :
    ReturnsInHanded {} Tryz.checked os 4 .any (fun w args => (Rows.fnRepliesSpec.pre enc Tryz.prog Tryz.f4 [] false w args ∧ laidMetH Tryz.prog Rows.fnRepliesRow.laid w) ∧ sizedMet enc Tryz.prog Tryz.f4 (OpenSpec.ofChange Rows.fnRepliesSpec) false w args)
      (Rows.fnRepliesSpec.post enc Tryz.prog Tryz.f4 false true false false) := by
  refine returnsInHanded_of_change_and_shaped (C := Tryz.checked) (X := fun w _ => laidMetH Tryz.prog Rows.fnRepliesRow.laid w) (fun _ _ _ hh h => h.of_heap hh) own started (by kernel_rfl) Tryz.func4
    (ChangeSpec.witness_shaped (enc := enc) (C := Tryz.checked) (os := os) (X := fun w _ => laidMetH Tryz.prog Rows.fnRepliesRow.laid w) false (World.laidAll Tryz.prog os Rows.fnRepliesRow.laid) #[.slice none 0 0] 8 (World.laidAll_os _ _ _) (World.shaped_of_ZipB (by kernel_rfl) (by kernel_rfl)) (by kernel_rfl) (by kernel_rfl) (by kernel_rfl) (by rw [MakeChecks.laidMetH_plain _ _ _ (by kernel_rfl)]; exact laidMet_laidAll _ (by kernel_rfl) (by kernel_rfl))) ?_
  intro W base args ds gs before hval0 hW _ _ hS hL _
  exact contract H enc W base args ds gs before hval0 hW hS hL

set_option maxRecDepth 100000 in
set_option maxHeartbeats 8000000 in
theorem over : Rows.FnRepliesSaid :=
  OpenClaim.holds_of_wide 4 Tryz.f4 rfl rfl rfl rfl rfl rfl rfl ⟨rfl, rfl, rfl, rfl, rfl⟩ rfl rfl rfl rfl rfl (by as_aux_lemma => kernel_rfl) Tryz.func4 closed
    (of_decide_eq_true (by as_aux_lemma => kernel_rfl)) (by unfold Func.isWrapper; first | (rw [if_pos (by decide +kernel)]; kernel_rfl) | (rw [if_neg (by decide +kernel)]; exact ⟨rfl, rfl⟩))
    (fun os started H enc _ => lifted os started H enc)

set_option maxRecDepth 100000 in
set_option maxHeartbeats 8000000 in
theorem proved : Rows.FnRepliesCardSaid :=
  Claim7.holds_tied_plain_at .later [] [.data, .data, .data, .data, .sentinel, .sentinel, .pinned] true (true, "098d56886bef0d3f39e1f17405596c4bc75520f883eb5d9edff715e4cb46b689") true
    over (fun _ h => by cases h) (by as_aux_lemma => kernel_rfl) (fun _ h => by cases h) fnReplies_row_tie rfl ⟨rfl, rfl⟩ (by as_aux_lemma => kernel_rfl) rfl
    (fun f fn hf hfn => by
      obtain rfl : f = 4 := Option.some.inj ((show Tryz.prog.funcNamed "loop.example/g00328/laws.FnReplies" = some 4 by as_aux_lemma => kernel_rfl).symm.trans hf) |>.symm
      obtain rfl : fn = Tryz.f4 := (Option.some.inj (Tryz.func4.symm.trans hfn)).symm
      exact ⟨by as_aux_lemma => kernel_rfl, fun j t ht => by
        rw [Tryz.params4] at ht
        have hmem : t ∈ [22] := List.mem_of_getElem? (by simpa using ht)
        simp only [List.mem_cons, List.not_mem_nil, or_false] at hmem
        subst hmem
        exact (show Tryz.prog.wantsStandIn 22 = false by kernel_rfl)⟩)
    (by as_aux_lemma => kernel_rfl)

end Go.Proofs.YtgegmojoakkohaaGreatDoor.fnReplies
