/-
  FnNoDowngrade: for every row of bytes the law answers true, and its argument reads as before.
-/
import Derived.Test.YtgegmojoakkohaaGreatDoorNdKh
import Derived.Test.YtgegmojoakkohaaGreatDoorTie
import Derived.Test.YtgegmojoakkohaaGreatDoorCards
import Derived.OpenShut
import Derived.WalkKit
import Derived.ProofKit
import Derived.LaidMore
import Derived.Lay
import Derived.Test.YtgegmojoakkohaaGreatDoorVm6
import Derived.Stop.LaidErr
import Derived.Stop.Joined
import Derived.SevenTiedAt
namespace Go.Proofs.YtgegmojoakkohaaGreatDoor.fnNoDowngrade
open Go.Vm Go.ChangeShapes Go.WideShapes Go.ChangeAt Go.RowKit
set_option linter.unusedVariables false
set_option linter.unusedSimpArgs false

theorem big_t (code : List UInt8) : laws_big_T code = some (decide ((code.length : Int) > 1048576)) := laws_big_of 0 code rfl

theorem line_t (s : ByteArray) : laws_line_T s = some (textT s) := laws_line_of 0 s rfl

/-- A call that must have a proof, ahead of any seal. -/
def C2 (host : ByteArray) (eph body inn out : Int) : Client := Client.mk 2 host true eph body zeroT inn out false false

section
variable {host : ByteArray} {eph body inn out now : Int} {t : Term}

theorem at10 (ho : clientOk (C2 host eph body inn out) = true) : clientOk { C2 host eph body inn out with step := 10 } = true ∧ clientOk { C2 host eph body inn out with step := 3 } = true := by
  unfold clientOk C2 inR at ho ⊢
  simp at ho ⊢
  exact ho

theorem tlsF : ¬ (C2 host eph body inn out).tls = true := Bool.false_ne_true

theorem wStart_ok : (textT wStart).ok = true := by decide +kernel

theorem hI3 (h : clientOk (C2 host eph body inn out) = false ∨ t.ok = false) : clientHearI (C2 host eph body inn out) t now = (C2 host eph body inn out, []) := by
  unfold clientHearI
  rw [if_neg]
  rintro ⟨h1, h2, _⟩
  rcases h with h | h
  · rw [h] at h1; cases h1
  · rw [h] at h2; cases h2

theorem hI12 (ho : clientOk (C2 host eph body inn out) = true) (hk : t.ok = true) : clientHearI (C2 host eph body inn out) t now = if (lineI t).2 = true ∧ (lineI t).1 = w250s then ({ C2 host eph body inn out with step := 3 }, [textT wStart]) else ({ C2 host eph body inn out with step := 10 }, []) := by
  obtain ⟨_, _, _, _, o0, o1⟩ := clientOk_rng ho
  have hl : clientLineI (C2 host eph body inn out) t = lineI t := by
    unfold clientLineI
    rw [if_neg tlsF]
  unfold clientHearI
  rw [if_pos ⟨ho, hk, (by decide : (2 : Int) ≠ 9), (by decide : (2 : Int) ≠ 10)⟩, if_neg (show ¬ (C2 host eph body inn out).step = 4 from (by decide : ¬ (2 : Int) = 4)), hl]
  cases h2 : (lineI t).2 with
  | false => rw [if_neg (by decide), if_neg (by simp)]; rfl
  | true =>
    rw [if_pos rfl]
    by_cases hs : (lineI t).1 = w250s
    · have e1 : heardLineI (C2 host eph body inn out) (lineI t).1 = goesI (nextI (C2 host eph body inn out)) (textT wStart) 3 := by
        unfold heardLineI
        simp [C2, hs]
      rw [e1, if_pos ⟨rfl, hs⟩]
      have hn : nextI (C2 host eph body inn out) = C2 host eph body inn out := by
        unfold nextI
        rw [if_neg tlsF]
      have hsay : sayI (C2 host eph body inn out) (textT wStart) = (C2 host eph body inn out, textT wStart) := by
        unfold sayI
        rw [if_neg tlsF]
      rw [hn]
      unfold goesI
      rw [hsay, if_neg (show ¬ (C2 host eph body inn out).out > 100 by omega)]
    · have e1 : heardLineI (C2 host eph body inn out) (lineI t).1 = failedI (C2 host eph body inn out) := by
        unfold heardLineI
        simp [C2, hs]
      rw [e1, if_neg (fun g => hs g.2)]
      rfl

theorem spec_hear2 (hh : host.size ≤ 100) (i0 : -9223372036854775808 ≤ inn) (i1 : inn ≤ 9223372036854775807) (o0 : -9223372036854775808 ≤ out) (o1 : out ≤ 9223372036854775807) (ht : t.cost ≤ 400000000) :
    spec_ClientHear_T (C2 host eph body inn out) t now = some ((clientHearI (C2 host eph body inn out) t now).1, (clientHearI (C2 host eph body inn out) t now).2, ()) := by
  refine spec_ClientHear_of 0 _ t now ?_
  have hz : (C2 host eph body inn out).share.cost ≤ 400000000 := by show zeroT.cost ≤ _; rw [zeroT_cost]; omega
  have hcp := spec_l9Copy_t (C2 host eph body inn out) hz
  have hok := spec_ClientOk_t (C2 host eph body inn out) (by omega) (show host.size ≤ _ by omega)
  have hfl := spec_l9Fail_t (C2 host eph body inn out) hz (show host.size ≤ _ by omega)
  have hsy := spec_l9Says_t (C2 host eph body inn out) (textT wStart) 3 hz (show host.size ≤ _ by omega) (text_le _ (by decide)) o0 o1
  unfold spec_ClientHear_R
  rw [hcp, qb_s, hok, qb_s, spec_TermOk_t t (by omega)]
  cases ho : clientOk (C2 host eph body inn out) with
  | false => rw [hI3 (.inl ho)]; simp only [Bool.not_false, br_t, Term.eta]
  | true =>
    cases hk : t.ok with
    | false => rw [hI3 (.inr hk)]; simp only [Bool.not_true, Bool.not_false, br_f, br_t, qb_s, Term.eta]
    | true =>
      obtain ⟨a1, a2⟩ := at10 ho
      have hF : failS (C2 host eph body inn out) = { C2 host eph body inn out with step := 10 } := by unfold failS; rw [if_pos a1]
      have hS : saysS (C2 host eph body inn out) (textT wStart) 3 = ({ C2 host eph body inn out with step := 3 }, [textT wStart]) := by
        have hsay : sayS (C2 host eph body inn out) (textT wStart) = (C2 host eph body inn out, textT wStart) := by
          unfold sayS
          rw [if_neg tlsF]
        unfold saysS
        rw [hsay, if_pos ⟨a2, wStart_ok⟩]
      rw [hF] at hfl
      rw [hS] at hsy
      have hli : spec_ClientLine_T (C2 host eph body inn out) t = some ((lineI t).1, (lineI t).2, ()) := by
        refine spec_ClientLine_of 0 _ t ?_
        unfold spec_ClientLine_R
        rw [show (C2 host eph body inn out).tls = false from rfl, br_f, spec_Line_of 0 t (y := ((lineI t).1, (lineI t).2, ())) (by
          unfold spec_Line_R lineI
          by_cases h2 : t.op = 2
          · rw [if_pos h2]; simp only [bne_int, h2, decide_true, Bool.not_true, br_f, spec_TermOk_t t (by omega), qb_s, hk]
          · rw [if_neg h2]; simp only [bne_int, h2, decide_false, Bool.not_false, br_t]), qb_s]
      rw [hI12 ho hk]
      simp only [Bool.not_true, br_f, qb_s, show decide ((C2 host eph body inn out).step ≥ 9) = false from rfl, show ((C2 host eph body inn out).step == 4) = false from rfl, hli]
      cases h2 : (lineI t).2 with
      | false =>
        rw [if_neg (by simp)]
        simp only [Bool.not_false, br_t, hfl, qb_s, Term.eta]
      | true =>
        have hl9 : spec_l9Line_T (C2 host eph body inn out) (lineI t).1 = some ((if (lineI t).1 = w250s then ({ C2 host eph body inn out with step := 3 }, [textT wStart]) else ({ C2 host eph body inn out with step := 10 }, [])).1, (if (lineI t).1 = w250s then (({ C2 host eph body inn out with step := 3 } : Client), [textT wStart]) else ({ C2 host eph body inn out with step := 10 }, [])).2, ()) := by
          refine spec_l9Line_c2_of 0 host true eph body zeroT inn out false false (lineI t).1 ?_
          unfold spec_l9Line_c2_R
          simp only [beq_bytes, spec_l8Text_t, qb_s]
          by_cases hs : (lineI t).1 = w250s
          · rw [if_pos hs, show decide ((lineI t).1 = (⟨#[50, 53, 48, 32, 115, 116, 97, 114, 116, 116, 108, 115]⟩ : ByteArray)) = true from decide_eq_true hs, br_t]
            exact (qb_run hsy).trans (by simp only [Term.eta])
          · rw [if_neg hs, show decide ((lineI t).1 = (⟨#[50, 53, 48, 32, 115, 116, 97, 114, 116, 116, 108, 115]⟩ : ByteArray)) = false from decide_eq_false hs, br_f]
            have hf2 : ∀ k : (Client × List Term × Unit) → Option (Client × List Term × Unit), qb (spec_l9Fail_T (Client.mk 2 host true eph body zeroT inn out false false)) k = k ({ C2 host eph body inn out with step := 10 }, [], ()) := fun k => qb_run hfl
            simp only [Bool.not_true, br_f]
            cases decide ((lineI t).1 = (⟨#[50, 53, 48]⟩ : ByteArray)) <;> simp only [br_t, br_f] <;> exact (hf2 _).trans (by simp only [Term.eta])
        simp only [Bool.not_true, br_f, show (C2 host eph body inn out).tls = false from rfl, hl9, qb_s, Term.eta, true_and]

end

theorem law (code : List UInt8) {t : Bool} (b : ∃ n, BdF n (.sl t .byte code)) : RN 5 [.sl false .byte code] [] = some (.bool true, [], []) := by
  refine rn_of_resid (n := 0) ((laws_FnNoDowngrade_res 0 code).trans ?_)
  unfold laws_FnNoDowngrade_R
  rw [big_t, qb_s]
  by_cases h : (code.length : Int) > 1048576
  · rw [decide_eq_true h]; rfl
  obtain ⟨c, x, now, e, hc, hx⟩ := spec_DrawClientHear_t code (by omega)
  obtain ⟨h1, h2, h3, h4, h5, h6⟩ := hc
  rw [decide_eq_false h, br_f, e, qb_s]
  dsimp only
  have hz : (C2 c.host c.eph c.body c.inn c.out).share.cost ≤ 400000000 := by show zeroT.cost ≤ _; rw [zeroT_cost]; omega
  have hi := impl_ClientHear_t (C2 c.host c.eph c.body c.inn c.out) x now hz hx (show c.host.size ≤ _ by omega)
  have hs := spec_hear2 (host := c.host) (eph := c.eph) (body := c.body) (inn := c.inn) (out := c.out) (now := now) (t := x) h2 h3 h4 h5 h6 hx
  have hko := impl_ClientOk_t (C2 c.host c.eph c.body c.inn c.out) (by omega) (show c.host.size ≤ _ by omega)
  rw [show (Client.mk 2 c.host true c.eph c.body (Term.mk 0 0 (ByteArray.mk #[]) []) c.inn c.out false false) = C2 c.host c.eph c.body c.inn c.out from rfl]
  have hbnd : (clientHearI (C2 c.host c.eph c.body c.inn c.out) x now).1.share.cost ≤ 400000000 ∧ (clientHearI (C2 c.host c.eph c.body c.inn c.out) x now).1.host.size ≤ 900000000 ∧ (clientHearI (C2 c.host c.eph c.body c.inn c.out) x now).2.length ≤ 1000 ∧ ∀ y ∈ (clientHearI (C2 c.host c.eph c.body c.inn c.out) x now).2, y.cost ≤ 400000000 := by
    cases ho : clientOk (C2 c.host c.eph c.body c.inn c.out) with
    | false => rw [hI3 (.inl ho)]; exact ⟨hz, by show c.host.size ≤ _; omega, by simp, by simp⟩
    | true =>
      cases hk : x.ok with
      | false => rw [hI3 (.inr hk)]; exact ⟨hz, by show c.host.size ≤ _; omega, by simp, by simp⟩
      | true =>
        rw [hI12 ho hk]
        split
        · exact ⟨hz, by show c.host.size ≤ _; omega, by simp, by intro y hy; simp at hy; subst hy; exact text_le _ (by decide)⟩
        · exact ⟨hz, by show c.host.size ≤ _; omega, by simp, by simp⟩
  have hsc := sameClient_t _ hbnd.1
  have hst := sameTerms_t _ hbnd.2.2.1 hbnd.2.2.2
  have h2nd := impl_ClientHear_t (clientHearI (C2 c.host c.eph c.body c.inn c.out) x now).1 (textT ⟨#[50, 53, 48]⟩) now hbnd.1 (text_le _ (by decide)) hbnd.2.1
  rw [hi, qb_s, hs, qb_s]
  dsimp only
  rw [hsc, qb_s, Bool.not_true, br_f, hst, qb_s, Bool.not_true, br_f, hko, qb_s, impl_TermOk_t x (by omega)]
  cases ho : clientOk (C2 c.host c.eph c.body c.inn c.out) with
  | false => rw [hI3 (.inl ho)]; rfl
  | true =>
    rw [Bool.not_true, br_f]
    simp only [qb_s]
    cases hk : x.ok with
    | false => rw [hI3 (.inr hk)]; rfl
    | true =>
      rw [Bool.not_true, br_f, impl_Line_t, qb_s]
      dsimp only
      simp only [line_t, qb_s, h2nd]
      rw [hI12 ho hk]
      by_cases hl : (lineI x).2 = true ∧ (lineI x).1 = w250s
      · rw [if_pos hl, hl.1, br_t, beq_bytes, show decide ((lineI x).1 = (⟨#[50, 53, 48, 32, 115, 116, 97, 114, 116, 116, 108, 115]⟩ : ByteArray)) = true from decide_eq_true hl.2, br_t]
        rfl
      · rw [if_neg hl]
        have h10 : clientHearI { C2 c.host c.eph c.body c.inn c.out with step := 10 } (textT ⟨#[50, 53, 48]⟩) now = ({ C2 c.host c.eph c.body c.inn c.out with step := 10 }, []) := by
          unfold clientHearI
          rw [if_neg (fun g => absurd rfl g.2.2.2)]
        rw [h10]
        cases hl2 : (lineI x).2 with
        | false => rfl
        | true =>
          have hne : ¬ (lineI x).1 = w250s := fun g => hl ⟨hl2, g⟩
          rw [br_t, beq_bytes, show decide ((lineI x).1 = (⟨#[50, 53, 48, 32, 115, 116, 97, 114, 116, 116, 108, 115]⟩ : ByteArray)) = false from decide_eq_false hne, br_f]
          rfl

theorem own : ownKnob Tryz.prog.godebug = none := by kernel_rfl
theorem laid : laidOutB Tryz.prog = true := by kernel_rfl

theorem powType : (Tryz.prog.globals[gPow]?).map (·.type) = some 158 := by kernel_rfl

theorem tab_of {W : World} (hL : laidMetH Tryz.prog Rows.fnNoDowngradeRow.laid W) : Lib.TabIs Tryz.prog W "internal/strconv.uint64pow10" .u64 Lib.pow10Tab := by
  have h0 : laidMet Tryz.prog Rows.fnNoDowngradeRow.laid W := hL
  have h1 : laidMet Tryz.prog (Rows.fnNoDowngradeRow.laid.drop 2) W := laidMet.tail (laidMet.tail (h0))
  have h2 : Rows.fnNoDowngradeRow.laid.drop 2 = ("internal/strconv.uint64pow10", Lib.tabData .u64 Lib.pow10Tab) :: Rows.fnNoDowngradeRow.laid.drop 3 := by kernel_rfl
  rw [h2] at h1
  exact Lib.tabIs_of_head gPow_is powType Tryz.underlying158 Tryz.underlying145 (by kernel_rfl) (by kernel_rfl) h1

theorem err_es {W : World} (hL : laidMetH Tryz.prog Rows.fnNoDowngradeRow.laid W) : (Gl.err 0).ok W := by
  have h0 : laidMet Tryz.prog Rows.fnNoDowngradeRow.laid W := hL
  have h1 : laidMet Tryz.prog (Rows.fnNoDowngradeRow.laid.drop 5) W := laidMet.tail (laidMet.tail (laidMet.tail (laidMet.tail (laidMet.tail (h0)))))
  have h2 : Rows.fnNoDowngradeRow.laid.drop 5 = ("strconv.ErrSyntax", .iface "*errors.errorString" (.ptr (.agg [.lit (.string [105, 110, 118, 97, 108, 105, 100, 32, 115, 121, 110, 116, 97, 120])]))) :: Rows.fnNoDowngradeRow.laid.drop 6 := by kernel_rfl
  rw [h2] at h1
  exact (err_of_head (t := 117) (by kernel_rfl) (by kernel_rfl) ⟨_, Tryz.underlying117⟩ h1).1

theorem err_er {W : World} (hL : laidMetH Tryz.prog Rows.fnNoDowngradeRow.laid W) : (Gl.err 1).ok W := by
  have h0 : laidMet Tryz.prog Rows.fnNoDowngradeRow.laid W := hL
  have h1 : laidMet Tryz.prog (Rows.fnNoDowngradeRow.laid.drop 4) W := laidMet.tail (laidMet.tail (laidMet.tail (laidMet.tail (h0))))
  have h2 : Rows.fnNoDowngradeRow.laid.drop 4 = ("strconv.ErrRange", .iface "*errors.errorString" (.ptr (.agg [.lit (.string [118, 97, 108, 117, 101, 32, 111, 117, 116, 32, 111, 102, 32, 114, 97, 110, 103, 101])]))) :: Rows.fnNoDowngradeRow.laid.drop 5 := by kernel_rfl
  rw [h2] at h1
  exact (err_of_head (t := 117) (by kernel_rfl) (by kernel_rfl) ⟨_, Tryz.underlying117⟩ h1).1

set_option maxRecDepth 100000 in
set_option maxHeartbeats 8000000 in
theorem contract (H : Type) (enc : TypeId × Value → H) (W : World) (base : Nat) (args : Array Value) (ds gs : List (DataW H)) (before : List MemPlace)
    (hval : ∀ (j : Nat) t v, Tryz.f5.params[j]? = some t → args[j]? = some v → Value.okWide Tryz.prog W .any base t v)
    (hW : DataW.Whole enc Tryz.prog Tryz.f5.params.toList Rows.fnNoDowngradeSpec.vars false W args.toList ds gs before) (hS : W.ShapedOpen Tryz.prog) (hL : laidMetH Tryz.prog Rows.fnNoDowngradeRow.laid W) :
    Calls Tryz.prog 5 args W fun e W' => ∃ v, e = .returned v ∧ Rows.fnNoDowngradeSpec.post enc Tryz.prog Tryz.f5 false true false false W args v W' := by
  have ok_num : (Gl.num .i64 5).ok W := Tryz.laysM146.s1_3 W hS
  have lt_num : ∀ b, (Gl.num .i64 5).bl b → b < W.heap.size := fun b hb => by
    obtain ⟨m, hm⟩ := ok_num
    cases hb
    exact World.block_lt_of_cell? _ _ hm
  obtain ⟨ok_tab, lt_tab0⟩ := Gl.tab_of gPow_is (tab_of hL)
  have lt_tab : ∀ b, (Gl.tab .u64 Lib.pow10Tab gPow).bl b → b < W.heap.size := fun b hb => by cases hb; exact lt_tab0
  have ok_es : (Gl.err 0).ok W := err_es hL
  have lt_es : ∀ b, (Gl.err 0).bl b → b < W.heap.size := fun b hb => by
    obtain ⟨ev, hm, _⟩ := ok_es
    cases hb
    exact World.block_lt_of_cell? _ _ hm
  have ok_er : (Gl.err 1).ok W := err_er hL
  have lt_er : ∀ b, (Gl.err 1).bl b → b < W.heap.size := fun b hb => by
    obtain ⟨ev, hm, _⟩ := ok_er
    cases hb
    exact World.block_lt_of_cell? _ _ hm
  have hok : GG.ok W := ⟨ok_num, ⟨ok_tab, ⟨ok_es, ok_er⟩⟩⟩
  have hlt : ∀ b, GG.bl b → b < W.heap.size := fun b hb => hb.elim (fun hb => lt_num b hb) (fun hb => hb.elim (fun hb => lt_tab b hb) (fun hb => hb.elim (fun hb => lt_es b hb) (fun hb => lt_er b hb)))
  have hW' := hW
  obtain ⟨p, q, hA0, hV, rfl, hfz, hnd⟩ := hW
  have hA : DataW.TrodAll enc Tryz.prog W 0 (fun _ => true) true Tryz.f5.params.toList args.toList ds p := hA0
  rw [Tryz.params5] at hA hval
  obtain ⟨v0, vs0, d0, ds0, p0, q0, hargs, rfl, rfl, h0, r0⟩ := trodAll_cons hA
  obtain ⟨rfl, rfl, rfl⟩ := trodAll_nil r0
  obtain rfl : args = #[v0] := by cases args; simp_all
  obtain ⟨rfl, rfl⟩ := trodVars_none hV
  obtain ⟨f0, ⟨t0, x0, rfl⟩, e0, b0⟩ := rd_one (a := .sl .byte) (h := hpOf .arg 0 []) (loc := fun _ => none) ksOk' (by kernel_rfl) (by kernel_rfl) (hval 0 22 v0 rfl rfl) h0
  have e0 := VW.loosen e0
  refine (law_calls_at (G := GG) (vs := [v0]) progOK hok hlt (law x0 b0) rfl (by unfold VWs VWs ; exact ⟨e0, trivial⟩)).mono fun e W1 ⟨he, a1, a2, a3, a4⟩ => ?_
  subst he
  exact ⟨_, rfl, law_post (tb := 4) rfl rfl rfl (by kernel_rfl) laid (by rw [Tryz.params5]; intro t ht; simp at ht; subst ht; exact ⟨by kernel_rfl, of_decide_eq_true (by kernel_rfl)⟩) hW' a1 a2 a4⟩

set_option maxRecDepth 100000 in
set_option maxHeartbeats 8000000 in
theorem closed : joinedFacts Tryz.prog 5 Tryz.f5 Rows.fnNoDowngradeSpec Rows.fnNoDowngradeRow = true := by
  unfold joinedFacts
  simp only [Bool.and_eq_true]
  and_intros
  all_goals (as_aux_lemma => kernel_rfl)

set_option maxRecDepth 100000 in
set_option maxHeartbeats 8000000 in
theorem lifted (os : Os) (started : os.Started) (H : Type) (enc : TypeId × Value → H) :
    ReturnsInHanded {} Tryz.checked os 5 .any (fun w args => (Rows.fnNoDowngradeSpec.pre enc Tryz.prog Tryz.f5 [] false w args ∧ laidMetH Tryz.prog Rows.fnNoDowngradeRow.laid w) ∧ sizedMet enc Tryz.prog Tryz.f5 (OpenSpec.ofChange Rows.fnNoDowngradeSpec) false w args)
      (Rows.fnNoDowngradeSpec.post enc Tryz.prog Tryz.f5 false true false false) := by
  refine returnsInHanded_of_change_and_shaped (C := Tryz.checked) (X := fun w _ => laidMetH Tryz.prog Rows.fnNoDowngradeRow.laid w) (fun _ _ _ hh h => h.of_heap hh) own started (by kernel_rfl) Tryz.func5
    (ChangeSpec.witness_shaped (enc := enc) (C := Tryz.checked) (os := os) (X := fun w _ => laidMetH Tryz.prog Rows.fnNoDowngradeRow.laid w) false (World.laidAll Tryz.prog os Rows.fnNoDowngradeRow.laid) #[.slice none 0 0] 8 (World.laidAll_os _ _ _) (World.shaped_of_ZipB (by kernel_rfl) (by kernel_rfl)) (by kernel_rfl) (by kernel_rfl) (by kernel_rfl) (by rw [MakeChecks.laidMetH_plain _ _ _ (by kernel_rfl)]; exact laidMet_laidAll _ (by kernel_rfl) (by kernel_rfl))) ?_
  intro W base args ds gs before hval0 hW _ _ hS hL _
  exact contract H enc W base args ds gs before hval0 hW hS hL

set_option maxRecDepth 100000 in
set_option maxHeartbeats 8000000 in
theorem over : Rows.FnNoDowngradeSaid :=
  OpenClaim.holds_of_wide 5 Tryz.f5 rfl rfl rfl rfl rfl rfl rfl ⟨rfl, rfl, rfl, rfl, rfl⟩ rfl rfl rfl rfl rfl (by as_aux_lemma => kernel_rfl) Tryz.func5 closed
    (of_decide_eq_true (by as_aux_lemma => kernel_rfl)) (by unfold Func.isWrapper; first | (rw [if_pos (by decide +kernel)]; kernel_rfl) | (rw [if_neg (by decide +kernel)]; exact ⟨rfl, rfl⟩))
    (fun os started H enc _ => lifted os started H enc)

set_option maxRecDepth 100000 in
set_option maxHeartbeats 8000000 in
theorem proved : Rows.FnNoDowngradeCardSaid :=
  Claim7.holds_tied_plain_at .later [] [.data, .data, .data, .data, .sentinel, .sentinel, .pinned] true (true, "098d56886bef0d3f39e1f17405596c4bc75520f883eb5d9edff715e4cb46b689") true
    over (fun _ h => by cases h) (by as_aux_lemma => kernel_rfl) (fun _ h => by cases h) fnNoDowngrade_row_tie rfl ⟨rfl, rfl⟩ (by as_aux_lemma => kernel_rfl) rfl
    (fun f fn hf hfn => by
      obtain rfl : f = 5 := Option.some.inj ((show Tryz.prog.funcNamed "loop.example/g00328/laws.FnNoDowngrade" = some 5 by as_aux_lemma => kernel_rfl).symm.trans hf) |>.symm
      obtain rfl : fn = Tryz.f5 := (Option.some.inj (Tryz.func5.symm.trans hfn)).symm
      exact ⟨by as_aux_lemma => kernel_rfl, fun j t ht => by
        rw [Tryz.params5] at ht
        have hmem : t ∈ [22] := List.mem_of_getElem? (by simpa using ht)
        simp only [List.mem_cons, List.not_mem_nil, or_false] at hmem
        subst hmem
        exact (show Tryz.prog.wantsStandIn 22 = false by kernel_rfl)⟩)
    (by as_aux_lemma => kernel_rfl)

end Go.Proofs.YtgegmojoakkohaaGreatDoor.fnNoDowngrade
