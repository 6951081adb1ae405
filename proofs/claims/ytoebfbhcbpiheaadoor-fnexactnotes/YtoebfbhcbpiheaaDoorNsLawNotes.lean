/-
  FnExactNotes: for every text the law answers true, and nothing is written.
-/
import Derived.Test.YtoebfbhcbpiheaaDoorNsMn
import Derived.Test.YtoebfbhcbpiheaaDoorTie
import Derived.Test.YtoebfbhcbpiheaaDoorCards
import Derived.OpenShut
import Derived.WalkKit
import Derived.ProofKit
import Derived.LaidMore
import Derived.Lay
import Derived.Test.YtoebfbhcbpiheaaDoorVm6
import Derived.Stop.LaidErr
import Derived.Stop.Joined
import Derived.SevenTiedAt
namespace Go.Proofs.YtoebfbhcbpiheaaDoor.fnExactNotes
open Go.Vm Go.ChangeShapes Go.WideShapes Go.ChangeAt Go.RowKit
set_option linter.unusedVariables false
set_option linter.unusedSimpArgs false

theorem law (s : ByteArray) (_b : ∃ n, BdF n (.str s)) : RN 4 [.str s] [] = some (.bool true, [], []) := by
  refine rn_of_resid (n := s.size + 3) ((laws_FnExactNotes_res (s.size + 3) s).trans ?_)
  unfold laws_FnExactNotes_R
  by_cases h : (s.size : Int) > 1048576
  · rw [decide_eq_true h]; rfl
  · have hs : s.size ≤ 900000000 := by omega
    have hlen := notes_len s
    have hloop := impl_Notes_loop s hs (s.size + 3) (s.size + 1) 0 [] (s.size + 3) (by omega) (by omega) (by simp) (by omega)
    have hn : impl_Notes_L3 (s.size + 3) (s.size + 3) s [] 0 [] 0 = _ := impl_Notes_L3_of hloop
    have hdom := notes_dom s hs
    have heq : laws_eqNoteS_T (notes s).1 (notes s).1 = some true := by
      rw [eqNoteS_of (notes s).1 (notes s).1 (by omega) (fun x hx y => eqNote_t x y (by unfold Note.cost; have := hdom x hx; omega))]
      simp
    have hmk : laws_markNoteS_L2 (s.size + 3) (s.size + 3) (notes s).1 1 0 = _ := laws_markNoteS_L2_of (markNoteS_loop (notes s).1 (by omega) (s.size + 3) (s.size + 3) (by omega))
    have hhd := heldNoteS_t (notes s).1.length (by omega)
    change impl_Notes_L3 (s.size + 3) (s.size + 3) s [] 0 [] 0 = some (.ret, (_, ((notes s).2 : Int), ()), (notes s).1, ()) at hn
    rw [decide_eq_false h, br_f, spec_Notes_t s hs]
    simp only [qb_s, hn, isRetE_r, br_t, heq, Bool.not_true, br_f, hmk, isRetE_e, isExt_e, hhd]
    have hb : ∀ k : Int, (k != k) = false := fun k => by simp
    have h0 : decide (((1 + 5 * (notes s).1.length : Nat) : Int) < 0) = false := decide_eq_false (by omega)
    simp only [hb, h0, br_f]

theorem own : ownKnob Tryd.prog.godebug = none := by kernel_rfl
theorem laid : laidOutB Tryd.prog = true := by kernel_rfl

theorem powType : (Tryd.prog.globals[gPow]?).map (·.type) = some 114 := by kernel_rfl

theorem tab_of {W : World} (hL : laidMetH Tryd.prog Rows.fnExactNotesRow.laid W) : Lib.TabIs Tryd.prog W "internal/strconv.uint64pow10" .u64 Lib.pow10Tab := by
  have h0 : laidMet Tryd.prog Rows.fnExactNotesRow.laid W := hL
  have h1 : laidMet Tryd.prog (Rows.fnExactNotesRow.laid.drop 2) W := laidMet.tail (laidMet.tail (h0))
  have h2 : Rows.fnExactNotesRow.laid.drop 2 = ("internal/strconv.uint64pow10", Lib.tabData .u64 Lib.pow10Tab) :: Rows.fnExactNotesRow.laid.drop 3 := by kernel_rfl
  rw [h2] at h1
  exact Lib.tabIs_of_head gPow_is powType Tryd.underlying114 Tryd.underlying101 (by kernel_rfl) (by kernel_rfl) h1

theorem err_es {W : World} (hL : laidMetH Tryd.prog Rows.fnExactNotesRow.laid W) : (Gl.err 1).ok W := by
  have h0 : laidMet Tryd.prog Rows.fnExactNotesRow.laid W := hL
  have h1 : laidMet Tryd.prog (Rows.fnExactNotesRow.laid.drop 5) W := laidMet.tail (laidMet.tail (laidMet.tail (laidMet.tail (laidMet.tail (h0)))))
  have h2 : Rows.fnExactNotesRow.laid.drop 5 = ("strconv.ErrSyntax", .iface "*errors.errorString" (.ptr (.agg [.lit (.string [105, 110, 118, 97, 108, 105, 100, 32, 115, 121, 110, 116, 97, 120])]))) :: Rows.fnExactNotesRow.laid.drop 6 := by kernel_rfl
  rw [h2] at h1
  exact (err_of_head (t := 82) (by kernel_rfl) (by kernel_rfl) ⟨_, Tryd.underlying82⟩ h1).1

theorem err_er {W : World} (hL : laidMetH Tryd.prog Rows.fnExactNotesRow.laid W) : (Gl.err 2).ok W := by
  have h0 : laidMet Tryd.prog Rows.fnExactNotesRow.laid W := hL
  have h1 : laidMet Tryd.prog (Rows.fnExactNotesRow.laid.drop 4) W := laidMet.tail (laidMet.tail (laidMet.tail (laidMet.tail (h0))))
  have h2 : Rows.fnExactNotesRow.laid.drop 4 = ("strconv.ErrRange", .iface "*errors.errorString" (.ptr (.agg [.lit (.string [118, 97, 108, 117, 101, 32, 111, 117, 116, 32, 111, 102, 32, 114, 97, 110, 103, 101])]))) :: Rows.fnExactNotesRow.laid.drop 5 := by kernel_rfl
  rw [h2] at h1
  exact (err_of_head (t := 82) (by kernel_rfl) (by kernel_rfl) ⟨_, Tryd.underlying82⟩ h1).1

set_option maxRecDepth 100000 in
set_option maxHeartbeats 8000000 in
theorem contract (H : Type) (enc : TypeId × Value → H) (W : World) (base : Nat) (args : Array Value) (ds gs : List (DataW H)) (before : List MemPlace)
    (hval : ∀ (j : Nat) t v, Tryd.f4.params[j]? = some t → args[j]? = some v → Value.okWide Tryd.prog W .any base t v)
    (hW : DataW.Whole enc Tryd.prog Tryd.f4.params.toList Rows.fnExactNotesSpec.vars false W args.toList ds gs before) (hS : W.ShapedOpen Tryd.prog) (hL : laidMetH Tryd.prog Rows.fnExactNotesRow.laid W) :
    Calls Tryd.prog 4 args W fun e W' => ∃ v, e = .returned v ∧ Rows.fnExactNotesSpec.post enc Tryd.prog Tryd.f4 false true false false W args v W' := by
  have ok_num : (Gl.num .i64 0).ok W := Tryd.laysM146.s1_3 W hS
  have lt_num : ∀ b, (Gl.num .i64 0).bl b → b < W.heap.size := fun b hb => by
    obtain ⟨m, hm⟩ := ok_num
    cases hb
    exact World.block_lt_of_cell? _ _ hm
  obtain ⟨ok_tab, lt_tab0⟩ := Gl.tab_of gPow_is (tab_of hL)
  have lt_tab : ∀ b, (Gl.tab .u64 Lib.pow10Tab gPow).bl b → b < W.heap.size := fun b hb => by cases hb; exact lt_tab0
  have ok_es : (Gl.err 1).ok W := err_es hL
  have lt_es : ∀ b, (Gl.err 1).bl b → b < W.heap.size := fun b hb => by
    obtain ⟨ev, hm, _⟩ := ok_es
    cases hb
    exact World.block_lt_of_cell? _ _ hm
  have ok_er : (Gl.err 2).ok W := err_er hL
  have lt_er : ∀ b, (Gl.err 2).bl b → b < W.heap.size := fun b hb => by
    obtain ⟨ev, hm, _⟩ := ok_er
    cases hb
    exact World.block_lt_of_cell? _ _ hm
  have hok : GG.ok W := ⟨ok_num, ⟨ok_tab, ⟨ok_es, ok_er⟩⟩⟩
  have hlt : ∀ b, GG.bl b → b < W.heap.size := fun b hb => hb.elim (fun hb => lt_num b hb) (fun hb => hb.elim (fun hb => lt_tab b hb) (fun hb => hb.elim (fun hb => lt_es b hb) (fun hb => lt_er b hb)))
  have hW' := hW
  obtain ⟨p, q, hA0, hV, rfl, hfz, hnd⟩ := hW
  have hA : DataW.TrodAll enc Tryd.prog W 0 (fun _ => true) true Tryd.f4.params.toList args.toList ds p := hA0
  rw [Tryd.params4] at hA hval
  obtain ⟨v0, vs0, d0, ds0, p0, q0, hargs, rfl, rfl, h0, r0⟩ := trodAll_cons hA
  obtain ⟨rfl, rfl, rfl⟩ := trodAll_nil r0
  obtain rfl : args = #[v0] := by cases args; simp_all
  obtain ⟨rfl, rfl⟩ := trodVars_none hV
  obtain ⟨f0, ⟨x0, rfl⟩, e0, b0⟩ := rd_one (a := .str) (h := hpOf .arg 0 []) (loc := fun _ => none) ksOk' (by kernel_rfl) (by kernel_rfl) (hval 0 9 v0 rfl rfl) h0
  refine (law_calls_at (G := GG) (vs := [v0]) progOK hok hlt (law x0 b0) rfl (by unfold VWs VWs ; exact ⟨e0, trivial⟩)).mono fun e W1 ⟨he, a1, a2, a3, a4⟩ => ?_
  subst he
  exact ⟨_, rfl, law_post (tb := 4) rfl rfl rfl (by kernel_rfl) laid (by rw [Tryd.params4]; intro t ht; simp at ht; subst ht; exact ⟨by kernel_rfl, of_decide_eq_true (by kernel_rfl)⟩) hW' a1 a2 a4⟩

set_option maxRecDepth 100000 in
set_option maxHeartbeats 8000000 in
theorem closed : joinedFacts Tryd.prog 4 Tryd.f4 Rows.fnExactNotesSpec Rows.fnExactNotesRow = true := by
  unfold joinedFacts
  simp only [Bool.and_eq_true]
  and_intros
  all_goals (as_aux_lemma => kernel_rfl)

set_option maxRecDepth 100000 in
set_option maxHeartbeats 8000000 in
theorem lifted (os : Os) (started : os.Started) (H : Type) (enc : TypeId × Value → H) :
    ReturnsInHanded {} Tryd.checked os 4 .any (fun w args => (Rows.fnExactNotesSpec.pre enc Tryd.prog Tryd.f4 [] false w args ∧ laidMetH Tryd.prog Rows.fnExactNotesRow.laid w) ∧ sizedMet enc Tryd.prog Tryd.f4 (OpenSpec.ofChange Rows.fnExactNotesSpec) false w args)
      (Rows.fnExactNotesSpec.post enc Tryd.prog Tryd.f4 false true false false) := by
  refine returnsInHanded_of_change_and_shaped (C := Tryd.checked) (X := fun w _ => laidMetH Tryd.prog Rows.fnExactNotesRow.laid w) (fun _ _ _ hh h => h.of_heap hh) own started (by kernel_rfl) Tryd.func4
    (ChangeSpec.witness_shaped (enc := enc) (C := Tryd.checked) (os := os) (X := fun w _ => laidMetH Tryd.prog Rows.fnExactNotesRow.laid w) false (World.laidAll Tryd.prog os Rows.fnExactNotesRow.laid) #[.string ⟨#[]⟩] 8 (World.laidAll_os _ _ _) (World.shaped_of_ZipB (by kernel_rfl) (by kernel_rfl)) (by kernel_rfl) (by kernel_rfl) (by kernel_rfl) (by rw [MakeChecks.laidMetH_plain _ _ _ (by kernel_rfl)]; exact laidMet_laidAll _ (by kernel_rfl) (by kernel_rfl))) ?_
  intro W base args ds gs before hval0 hW _ _ hS hL _
  exact contract H enc W base args ds gs before hval0 hW hS hL

set_option maxRecDepth 100000 in
set_option maxHeartbeats 8000000 in
theorem over : Rows.FnExactNotesSaid :=
  OpenClaim.holds_of_wide 4 Tryd.f4 rfl rfl rfl rfl rfl rfl rfl ⟨rfl, rfl, rfl, rfl, rfl⟩ rfl rfl rfl rfl rfl (by as_aux_lemma => kernel_rfl) Tryd.func4 closed
    (of_decide_eq_true (by as_aux_lemma => kernel_rfl)) (by unfold Func.isWrapper; first | (rw [if_pos (by decide +kernel)]; kernel_rfl) | (rw [if_neg (by decide +kernel)]; exact ⟨rfl, rfl⟩))
    (fun os started H enc _ => lifted os started H enc)

set_option maxRecDepth 100000 in
set_option maxHeartbeats 8000000 in
theorem proved : Rows.FnExactNotesCardSaid :=
  Claim7.holds_tied_plain_at .later [] [.data, .data, .data, .data, .sentinel, .sentinel, .pinned] true (true, "37a732bfb65294e74169b3dec5188a4d315ebe54e683c4e167c6c207610578e6") true
    over (fun _ h => by cases h) (by as_aux_lemma => kernel_rfl) (fun _ h => by cases h) fnExactNotes_row_tie rfl ⟨rfl, rfl⟩ (by as_aux_lemma => kernel_rfl) rfl
    (fun f fn hf hfn => by
      obtain rfl : f = 4 := Option.some.inj ((show Tryd.prog.funcNamed "loop.example/g00328/laws.FnExactNotes" = some 4 by as_aux_lemma => kernel_rfl).symm.trans hf) |>.symm
      obtain rfl : fn = Tryd.f4 := (Option.some.inj (Tryd.func4.symm.trans hfn)).symm
      exact ⟨by as_aux_lemma => kernel_rfl, fun j t ht => by
        rw [Tryd.params4] at ht
        have hmem : t ∈ [9] := List.mem_of_getElem? (by simpa using ht)
        simp only [List.mem_cons, List.not_mem_nil, or_false] at hmem
        subst hmem
        exact (show Tryd.prog.wantsStandIn 9 = false by kernel_rfl)⟩)
    (by as_aux_lemma => kernel_rfl)

end Go.Proofs.YtoebfbhcbpiheaaDoor.fnExactNotes
