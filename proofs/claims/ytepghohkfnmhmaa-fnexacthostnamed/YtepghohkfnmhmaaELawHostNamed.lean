/-
  FnExactHostNamed: the law answers true.
-/
import Derived.Test.YtepghohkfnmhmaaEWo
import Derived.OpenShut
import Derived.WalkKit
import Derived.ProofKit
namespace Go.Proofs.Ytepghohkfnmhmaa.fnExactHostNamed
open Go.Vm Go.ChangeShapes Go.WideShapes Go.ChangeAt Go.RowKit
set_option linter.unusedVariables false
set_option linter.unusedSimpArgs false

theorem spec_rn (w : WorldD) (name : ByteArray) (hl : w.hosts.length < 9223372036854775807) : RN 19 [.ag (WorldD.cells w), .str name] [] = some (.int (hostIdx w.hosts name), [], []) := by
  refine rn_of_resid (n := w.hosts.length + 1) ?_
  rw [spec_HostNamed_res]
  have hloop := lp_list (P := Try.prog) (cfg := cfg) (T := RN) (n := w.hosts.length + 1) (d := 5) (f := 19) (r := 2) (na := 0) w.hosts
    (fun i (x : Host) (_ : Unit) => if (decide (x.name = name)) = true then (.inr ((i : Nat) : Int) : Unit ⊕ Int) else .inl ())
    (fun i _ => ⟨frOf [(1, .str name), (2, .c (.bx (.own 2) 0)), (4, .int 0), (5, .int i)], hpIds [(.own 2, .box ((WorldD.cells w).map C.f))]⟩)
    (fun _ => (.ext 0, ⟨frOf [(4, .int 0)], hpIds []⟩)) (fun i => (.ret, ⟨frOf [(4, .int i)], hpIds []⟩)) (fun _ _ => True)
    (fun _ _ => by rw [spec_HostNamed_round2, lt_self]; rfl) (fun _ => rfl) (fun _ => rfl)
    (fun i x a hx hi _ => by
      rw [spec_HostNamed_round2, lt_t hi, idx_nat hx]
      simp only [br, qb, beq_bytes]
      by_cases he : x.name = name
      · simp only [he, decide_true, if_true]
      · simp only [he, decide_false, if_false, Bool.false_eq_true]
        rw [wrap_succ (by omega)]
        rfl)
    (fun _ _ _ _ _ _ _ _ => trivial) () (w.hosts.length + 1) trivial (by omega)
  refine (qb_run hloop).trans ?_
  rw [lfold_idx (fun x : Host => decide (x.name = name)) (fun i => ((i : Nat) : Int))]
  unfold hostIdx
  cases w.hosts.findIdx? (fun x : Host => decide (x.name = name)) with
  | none => rfl
  | some j => simp only [Nat.zero_add]; rfl

theorem impl_rn (w : WorldD) (name : ByteArray) (hl : w.hosts.length < 9223372036854775807) : RN 21 [.ag (WorldD.cells w), .str name] [] = some (.int (hostIdx w.hosts name), [], []) := by
  refine rn_of_resid (n := w.hosts.length + 1) ?_
  rw [impl_HostNamed_res]
  have hloop := lp_list (P := Try.prog) (cfg := cfg) (T := RN) (n := w.hosts.length + 1) (d := 4) (f := 48) (r := 2) (na := 1) w.hosts
    (fun i (x : Host) (_ : Unit) => if (decide (x.name = name)) = true then (.inr ((i : Nat) : Int) : Unit ⊕ Int) else .inl ())
    (fun i _ => ⟨frOf [(0, .sl false .host w.hosts), (1, .c (.fn 49 [.bx (.arg 0) 0])), (4, .int 0), (7, .int w.hosts.length), (8, .int i)], hpIds [(.arg 0, .box [.f (.str name)])]⟩)
    (fun _ => (.ext 0, ⟨frOf [(4, .int 0)], hpIds [(.arg 0, .box [.f (.str name)])]⟩)) (fun i => (.ret, ⟨frOf [(4, .int i)], hpIds [(.arg 0, .box [.f (.str name)])]⟩)) (fun _ _ => True)
    (fun _ _ => by rw [slices_IndexFunc_impl_Host_impl_Host_round2_4, lt_self]; rfl) (fun _ => rfl) (fun _ => rfl)
    (fun i x a hx hi _ => by
      rw [slices_IndexFunc_impl_Host_impl_Host_round2_4, lt_t hi, idx_nat hx]
      simp only [br, qb, beq_bytes]
      by_cases he : x.name = name
      · simp only [he, decide_true, if_true]
      · simp only [he, decide_false, if_false, Bool.false_eq_true]
        rw [wrap_succ (by omega)])
    (fun _ _ _ _ _ _ _ _ => trivial) () (w.hosts.length + 1) trivial (by omega)
  refine (qb_run hloop).trans ?_
  rw [lfold_idx (fun x : Host => decide (x.name = name)) (fun i => ((i : Nat) : Int))]
  unfold hostIdx
  cases w.hosts.findIdx? (fun x : Host => decide (x.name = name)) with
  | none => rfl
  | some j => simp only [Nat.zero_add]; rfl

theorem law (w : WorldD) (name : ByteArray) (hw : ∃ n, ∀ f ∈ WorldD.cells w, BdF n f) (hs : ∃ m, BdF m (.str name)) : RN 4 [.ag (WorldD.cells w), .str name] [] = some (.bool true, [], []) := by
  have hb := WorldD.Bd.of hw
  refine rn_of_resid (n := 0) ?_
  rw [laws_FnExactHostNamed_res]
  by_cases hn : (name.size : Int) > 1048576
  · rw [show decide ((name.size : Int) > 1048576) = true by simpa using hn]
    rfl
  rw [show decide ((name.size : Int) > 1048576) = false by simpa using hn]
  have e0 := pres_f (szWorld_rn w hb 1048576 (by omega) (by omega))
  simp only [WorldD.cells, V.ag, List.map_cons, List.map_nil] at e0
  rw [e0]
  simp only [br, qb, unC, fInt]
  by_cases hc : (w.cost : Int) ≤ 1048576
  · rw [vLeft_yes hc, show decide ((1048576 : Int) - (w.cost : Int) < 0) = false by simp; omega]
    have hl : w.hosts.length < 9223372036854775807 := by have := (world_small (m := w.cost) (Nat.le_refl _)).2.2.2.1; omega
    have e1 := pres_ag (toWorld_rn w (by omega))
    have e2 := pres_f (spec_rn w name hl)
    have e3 := pres_f (impl_rn w name hl)
    have e4 := pres_f (eqWorld_rn w w (by omega))
    simp only [WorldD.cells, V.ag, List.map_cons, List.map_nil] at e1 e2 e3 e4
    have ew : ∀ x : WorldD, asWorld (.agg [.f (.int x.time), .f (.int x.fresh), .f (.sl false .term x.known), .f (.sl false .policy x.cache), .f (.sl false .host x.hosts), .f (.sl false .letter x.letters), .f (.str x.book), .f (.int x.sure), .f (.sl false .call x.calls), .f (.sl false .talk x.talks), .f (.sl false .int x.told)]) = some x := fun x => rfl
    simp only [e1, qb, ew, e2, e3, unC, fInt, e4, fBool]
    simp
  · rw [vLeft_not hc]
    rfl

set_option linter.unusedVariables false

theorem own : ownKnob Try.prog.godebug = none := by kernel_rfl
theorem laid : laidOutB Try.prog = true := by kernel_rfl

set_option maxRecDepth 100000 in
theorem contract (H : Type) (enc : TypeId × Value → H) (W : World) (base : Nat) (args : Array Value) (ds gs : List (DataW H)) (before : List MemPlace)
    (hval : ∀ (j : Nat) t v, Try.f4.params[j]? = some t → args[j]? = some v → Value.okWide Try.prog W .any base t v)
    (hW : DataW.Whole enc Try.prog Try.f4.params.toList Rows.fnExactHostNamedSpec.vars false W args.toList ds gs before) :
    Calls Try.prog 4 args W fun e W' => ∃ v, e = .returned v ∧ Rows.fnExactHostNamedSpec.post enc Try.prog Try.f4 false true false false W args v W' := by
  have hW' := hW
  obtain ⟨p, q, hA0, hV, rfl, hfz, hnd⟩ := hW
  have hA : DataW.TrodAll enc Try.prog W 0 (fun _ => true) true Try.f4.params.toList args.toList ds p := hA0
  rw [Try.params4] at hA hval
  obtain ⟨v0, vs0, d0, ds0, p0, q0, hargs, rfl, rfl, h0, r0⟩ := trodAll_cons hA
  obtain ⟨v1, vs1, d1, ds1, p1, q1, rfl, rfl, rfl, h1, r1⟩ := trodAll_cons r0
  obtain ⟨rfl, rfl, rfl⟩ := trodAll_nil r1
  obtain rfl : args = #[v0, v1] := by cases args; simp_all
  obtain ⟨rfl, rfl⟩ := trodVars_none hV
  obtain ⟨x0, e0, b0⟩ := rd_world (h := hpOf .arg 0 []) (loc := fun _ => none) ksOk' (by kernel_rfl) (by kernel_rfl) (hval 0 43 v0 rfl rfl) h0
  obtain ⟨f1, ⟨x1, rfl⟩, e1, b1⟩ := rd_one (a := .str) (h := hpOf .arg 0 []) (loc := fun _ => none) ksOk' (by kernel_rfl) (by kernel_rfl) (hval 1 9 v1 rfl rfl) h1
  refine (law_calls (vs := [v0, v1]) progOK (law x0 x1 b0 b1) rfl (by unfold VWs VWs VWs ; exact ⟨e0, e1, trivial⟩)).mono fun e W1 ⟨he, a1, a2, a3, a4⟩ => ?_
  subst he
  exact ⟨_, rfl, law_post (tb := 4) rfl rfl rfl (by kernel_rfl) laid (by rw [Try.params4]; intro t ht; simp at ht; rcases ht with rfl | rfl <;> exact ⟨by kernel_rfl, of_decide_eq_true (by kernel_rfl)⟩) hW' a1 a2 a4⟩

set_option maxRecDepth 100000 in
theorem lifted (os : Os) (started : os.Started) (H : Type) (enc : TypeId × Value → H) :
    ReturnsInHanded {} Try.checked os 4 .any (Rows.fnExactHostNamedSpec.pre6 enc Try.prog Try.f4 Rows.fnExactHostNamedRow.domain false) (Rows.fnExactHostNamedSpec.post enc Try.prog Try.f4 false true false false) := by
  refine returnsInHanded_of_change (C := Try.checked) own started (by kernel_rfl) Try.func4
    (ChangeSpec.witness6 (enc := enc) (C := Try.checked) false ⟨#[], #[.agg #[.int .i64 0, .int .i64 0, .slice none 0 0, .slice none 0 0, .slice none 0 0, .slice none 0 0, .string ⟨#[]⟩, .int .i64 0, .slice none 0 0, .slice none 0 0, .slice none 0 0], .string ⟨#[]⟩], []⟩ 8 (by kernel_rfl) (by kernel_rfl) (by kernel_rfl) (by kernel_rfl)) ?_
  intro W base args ds gs before hval hW _ _
  exact contract H enc W base args ds gs before hval hW

theorem over : Rows.fnExactHostNamedRow.holds Try.pinned (OpenSpec.ofChange Rows.fnExactHostNamedSpec) :=
  OpenClaim.holds_of_wide 4 Try.f4 rfl rfl rfl rfl rfl rfl rfl ⟨rfl, rfl, rfl, rfl, rfl⟩ rfl rfl rfl rfl rfl (by kernel_rfl) Try.func4 (by kernel_rfl)
    (of_decide_eq_true (by kernel_rfl)) (by unfold Func.isWrapper; first | (rw [if_pos (by decide +kernel)]; kernel_rfl) | (rw [if_neg (by decide +kernel)]; exact ⟨rfl, rfl⟩))
    (fun os started H enc _ => lifted os started H enc)

theorem proved : Rows.FnExactHostNamedSaid :=
  over

end Go.Proofs.Ytepghohkfnmhmaa.fnExactHostNamed

