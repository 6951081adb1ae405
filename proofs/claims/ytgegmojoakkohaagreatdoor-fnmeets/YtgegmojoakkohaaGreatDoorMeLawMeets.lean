/-
  FnMeets: for every row of bytes the law answers true, and its argument reads as before.
-/
import Derived.Test.YtgegmojoakkohaaGreatDoorMeSv
import Derived.Test.YtgegmojoakkohaaGreatDoorTie
import Derived.Test.YtgegmojoakkohaaGreatDoorCards
import Derived.OpenShut
import Derived.WalkKit
import Derived.ProofKit
import Derived.LaidMore
import Derived.Lay
import Derived.Test.YtgegmojoakkohaaGreatDoorVm6
import Derived.Stop.LaidErr
import Derived.Stop.Joined
import Derived.SevenTiedAt
namespace Go.Proofs.YtgegmojoakkohaaGreatDoor.fnMeets
open Go.Vm Go.ChangeShapes Go.WideShapes Go.ChangeAt Go.RowKit
set_option linter.unusedVariables false
set_option linter.unusedSimpArgs false

theorem big_t (code : List UInt8) : laws_big_T code = some (decide ((code.length : Int) > 1048576)) := laws_big_of 0 code rfl

theorem at_t (code : List UInt8) (i : Nat) (hi : i ≤ 1000) (hl : code.length ≤ 1048576) : ∃ m : Nat, laws_at_T code (i : Int) = some (m : Int) := by
  by_cases h : i < code.length
  · obtain ⟨x, hx⟩ : ∃ x, code[i]? = some x := ⟨_, List.getElem?_eq_getElem h⟩
    refine ⟨x.toNat, laws_at_of 0 code (i : Int) ?_⟩
    have := x.toNat_lt
    unfold laws_at_R
    rw [lt_t h, br_t, idx_nat hx, qb_s, wrap_id (by omega) (by omega)]
  · refine ⟨(i * 7 + code.length) % 256, laws_at_of 0 code (i : Int) ?_⟩
    unfold laws_at_R
    rw [show decide ((i : Int) < (code.length : Int)) = false by simp; omega, br_f, show ne0 256 = some () from rfl, qb_s, wrap_id (i := (i : Int) * 7) (by omega) (by omega), wrap_id (by omega) (by omega)]
    rw [Int.tmod_eq_emod_of_nonneg (by omega)]
    simp

/-! The two, in turn. -/

def callB (c : Client) : Bool := decide (c.share.cost ≤ 400000000) && decide (c.host.size ≤ 900000000)
def hostB (s : Server) : Bool := decide (s.cert.cost ≤ 400000000) && (decide (s.share.cost ≤ 400000000) && (decide (s.host.size ≤ 900000000) && decide (s.got.length ≤ 1000)))
def termB (t : Term) : Bool := decide (t.cost ≤ 400000000)

/-- The call hears some terms; none where a bound is passed. -/
def hearC : Client → List Term → List Term → Option (Client × List Term)
  | c, [], out => some (c, out)
  | c, t :: l, out => if callB c = true ∧ termB t = true ∧ out.length ≤ 1000 ∧ (clientHearI c t 5).2.length ≤ 1000 then hearC (clientHearI c t 5).1 l (out ++ (clientHearI c t 5).2) else none

def hearS : Server → List Term → List Term → Option (Server × List Term)
  | s, [], out => some (s, out)
  | s, t :: l, out => if hostB s = true ∧ termB t = true ∧ out.length ≤ 1000 ∧ (serverHearI s t).2.length ≤ 1000 then hearS (serverHearI s t).1 l (out ++ (serverHearI s t).2) else none

def meet : Nat → Client → Server → List Term → Option (Client × Server)
  | 0, c, s, _ => some (c, s)
  | n + 1, c, s, l => (hearC c l []).bind fun a => if l.length ≤ 1000 ∧ a.2.length ≤ 1000 then (hearS s a.2 []).bind fun b => meet n a.1 b.1 b.2 else none

theorem hearC_loop (N : Nat) (x12 : Int) (v : Server) : ∀ (r : List Term) (k q : Nat) (l : List Term) (c : Client) (out : List Term) (c' : Client) (out' : List Term), l.length ≤ 1000 → k ≤ l.length → l.drop k = r → r.length < q → hearC c r out = some (c', out') →
    lp Tryz.prog cfg RN N 5 6 15 0 q (laws_FnMeets_S15 l x12 out (k : Int) c v) = some (.ext 2, laws_FnMeets_O15 x12 out' c' v) := by
  intro r
  induction r with
  | nil =>
    intro k q l c out c' out' hl hk hd hq h
    obtain ⟨q, rfl⟩ : ∃ q', q = q' + 1 := ⟨q - 1, by simp at hq; omega⟩
    simp only [hearC, Option.some.injEq, Prod.mk.injEq] at h
    obtain ⟨rfl, rfl⟩ := h
    have hkl : l.length ≤ k := by
      have := congrArg List.length hd
      simp at this
      omega
    have : k = l.length := by omega
    subst this
    refine lp_out ?_ rfl
    rw [laws_FnMeets_round15, lt_self, br_f]
  | cons t r IH =>
    intro k q l c out c' out' hl hk hd hq h
    obtain ⟨q, rfl⟩ : ∃ q', q = q' + 1 := ⟨q - 1, by simp at hq; omega⟩
    have hx : l[k]? = some t := by
      have := congrArg (fun z => z[0]?) hd
      simpa using this
    have hklt : k < l.length := by
      by_cases hh : k < l.length
      · exact hh
      · rw [List.getElem?_eq_none (by omega)] at hx; cases hx
    unfold hearC at h
    split at h
    · rename_i hb
      obtain ⟨h1, h2, h3, h4⟩ := hb
      unfold callB at h1
      unfold termB at h2
      simp only [Bool.and_eq_true, decide_eq_true_eq] at h1 h2
      have hch := impl_ClientHear_t c t 5 h1.1 h2 h1.2
      have hd' : l.drop (k + 1) = r := by
        have := congrArg (List.drop 1) hd
        simpa [List.drop_drop] using this
      have ih := IH (k + 1) q l _ _ c' out' hl (by omega) hd' (by simp at hq; omega) h
      refine lp_next ?_ ih
      rw [laws_FnMeets_round15, lt_t hklt, br_t, idx_nat hx, qb_s, show l[((k : Int)).toNat]? = some t from hx, qb_s, hch, qb_s]
      dsimp only
      rw [wrap_succ (by omega), ble_max (show out.length + (clientHearI c t 5).2.length ≤ 1000000000 by omega), br_t]
      cases hs : (clientHearI c t 5).2 with
      | nil => rw [List.append_nil]; rfl
      | cons y ys => rfl
    · cases h

theorem hearS_loop (N : Nat) (x12 : Int) (c : Client) : ∀ (r : List Term) (k q : Nat) (l : List Term) (v : Server) (out : List Term) (v' : Server) (out' : List Term), l.length ≤ 1000 → k ≤ l.length → l.drop k = r → r.length < q → hearS v r out = some (v', out') →
    lp Tryz.prog cfg RN N 5 6 22 0 q (laws_FnMeets_S22 out x12 l (k : Int) c v) = some (.ext 4, laws_FnMeets_O22 out' x12 c v') := by
  intro r
  induction r with
  | nil =>
    intro k q l v out v' out' hl hk hd hq h
    obtain ⟨q, rfl⟩ : ∃ q', q = q' + 1 := ⟨q - 1, by simp at hq; omega⟩
    simp only [hearS, Option.some.injEq, Prod.mk.injEq] at h
    obtain ⟨rfl, rfl⟩ := h
    have hkl : l.length ≤ k := by
      have := congrArg List.length hd
      simp at this
      omega
    have : k = l.length := by omega
    subst this
    refine lp_out ?_ rfl
    rw [laws_FnMeets_round22, lt_self, br_f]
  | cons t r IH =>
    intro k q l v out v' out' hl hk hd hq h
    obtain ⟨q, rfl⟩ : ∃ q', q = q' + 1 := ⟨q - 1, by simp at hq; omega⟩
    have hx : l[k]? = some t := by
      have := congrArg (fun z => z[0]?) hd
      simpa using this
    have hklt : k < l.length := by
      by_cases hh : k < l.length
      · exact hh
      · rw [List.getElem?_eq_none (by omega)] at hx; cases hx
    unfold hearS at h
    split at h
    · rename_i hb
      obtain ⟨h1, h2, h3, h4⟩ := hb
      unfold hostB at h1
      unfold termB at h2
      simp only [Bool.and_eq_true, decide_eq_true_eq] at h1 h2
      have hch := impl_ServerHear_t v t h1.1 h1.2.1 h1.2.2.1 h1.2.2.2 h2
      have hd' : l.drop (k + 1) = r := by
        have := congrArg (List.drop 1) hd
        simpa [List.drop_drop] using this
      have ih := IH (k + 1) q l _ _ v' out' hl (by omega) hd' (by simp at hq; omega) h
      refine lp_next ?_ ih
      rw [laws_FnMeets_round22, lt_t hklt, br_t, idx_nat hx, qb_s, show l[((k : Int)).toNat]? = some t from hx, qb_s, hch, qb_s]
      dsimp only
      rw [wrap_succ (by omega), ble_max (show out.length + (serverHearI v t).2.length ≤ 1000000000 by omega), br_t]
      cases hs : (serverHearI v t).2 with
      | nil => rw [List.append_nil]; rfl
      | cons y ys => rfl
    · cases h

theorem meet_loop : ∀ (m x q : Nat), x + m = 12 → m < q → ∀ (c : Client) (v : Server) (l : List Term) (c' : Client) (v' : Server), meet m c v l = some (c', v') →
    lp Tryz.prog cfg RN 1010 5 6 11 0 q (laws_FnMeets_S11 l (x : Int) c v) = some (.ext 0, laws_FnMeets_O11 c' v')
  | 0, x, q + 1, hx, hq, c, v, l, c', v', h => by
    simp only [meet, Option.some.injEq, Prod.mk.injEq] at h
    obtain ⟨rfl, rfl⟩ := h
    refine lp_out ?_ rfl
    rw [laws_FnMeets_round11, show decide ((x : Int) < 12) = false by simp; omega, br_f]
  | m + 1, x, q + 1, hx, hq, c, v, l, c', v', h => by
    unfold meet at h
    rw [Option.bind_eq_some_iff] at h
    obtain ⟨⟨c1, l1⟩, ha, h⟩ := h
    split at h
    · rename_i hlen
      rw [Option.bind_eq_some_iff] at h
      obtain ⟨⟨v1, l2⟩, hb, h⟩ := h
      have ih := meet_loop m (x + 1) q (by omega) (by omega) c1 v1 l2 c' v' h
      have L1 := laws_FnMeets_L15_of (hearC_loop 1010 (x : Int) v l 0 1010 l c [] c1 l1 hlen.1 (by omega) rfl (by omega) ha)
      have L2 := laws_FnMeets_L22_of (hearS_loop 1010 (x : Int) c1 l1 0 1010 l1 v [] v1 l2 hlen.2 (by omega) rfl (by have := hlen.2; simp at this; omega) hb)
      have L1' : laws_FnMeets_L15 1010 1010 l (x : Int) [] 0 c v = _ := L1
      have L2' : laws_FnMeets_L22 1010 1010 [] (x : Int) l1 0 c1 v = _ := L2
      refine lp_next ?_ ih
      rw [laws_FnMeets_round11, show decide ((x : Int) < 12) = true by simp; omega, br_t, L1', qb_s]
      dsimp only
      rw [isRetE_e, br_f, isExt_e, br_t, L2', qb_s]
      dsimp only
      rw [isRetE_e, br_f, isExt_e, br_t, wrap_succ (by omega)]
    · cases h

def mHost : ByteArray := ⟨#[109, 120, 46, 97]⟩

def good (r : Option (Client × Server)) : Bool := match r with
  | some (c, v) => decide (c.share.cost ≤ 400000000) && (decide (c.step = 9) && (c.tls && (c.proved && (v.tls && (decide (c.share = v.share) && decide (v.got = [30]))))))
  | none => false

theorem all_good : ∀ m ∈ [true, false], ∀ i ∈ [20, 21, 22, 23, 24], ∀ j ∈ [40, 41, 42, 43, 44],
    clientNew mHost m i 30 = (newClient mHost m i 30, true) ∧ serverNew mHost 10 j 50 = (newServer mHost 10 j 50, true) ∧ good (meet 12 (newClient mHost m i 30) (newServer mHost 10 j 50) [textT w220]) = true := by decide +kernel

theorem law (code : List UInt8) {t : Bool} (b : ∃ n, BdF n (.sl t .byte code)) : RN 6 [.sl false .byte code] [] = some (.bool true, [], []) := by
  refine rn_of_resid (n := 1010) ((laws_FnMeets_res 1010 code).trans ?_)
  unfold laws_FnMeets_R
  rw [big_t, qb_s]
  by_cases h : (code.length : Int) > 1048576
  · rw [decide_eq_true h]; rfl
  rw [decide_eq_false h, br_f]
  obtain ⟨m0, h0⟩ := at_t code 0 (by omega) (by omega)
  obtain ⟨m1, h1⟩ := at_t code 1 (by omega) (by omega)
  obtain ⟨m2, h2⟩ := at_t code 2 (by omega) (by omega)
  have h0' : laws_at_T code 0 = some (m0 : Int) := h0
  have h1' : laws_at_T code 1 = some (m1 : Int) := h1
  have h2' : laws_at_T code 2 = some (m2 : Int) := h2
  rw [h0', qb_s, show ne0 5 = some () from rfl, qb_s]
  simp only [h1', h2', qb_s, show ne0 2 = some () from rfl]
  have w0 : IntKind.i64.wrap (20 + Int.tmod (m0 : Int) 5) = 20 + Int.tmod (m0 : Int) 5 := by
    rw [Int.tmod_eq_emod_of_nonneg (by omega)]
    exact wrap_id (by omega) (by omega)
  have w1 : IntKind.i64.wrap (40 + Int.tmod (m1 : Int) 5) = 40 + Int.tmod (m1 : Int) 5 := by
    rw [Int.tmod_eq_emod_of_nonneg (by omega)]
    exact wrap_id (by omega) (by omega)
  rw [w0, w1]
  have hi : (20 + Int.tmod (m0 : Int) 5) ∈ [20, 21, 22, 23, 24] := by
    rw [Int.tmod_eq_emod_of_nonneg (by omega)]
    have : (m0 : Int) % 5 = 0 ∨ (m0 : Int) % 5 = 1 ∨ (m0 : Int) % 5 = 2 ∨ (m0 : Int) % 5 = 3 ∨ (m0 : Int) % 5 = 4 := by omega
    rcases this with e | e | e | e | e <;> rw [e] <;> decide
  have hj : (40 + Int.tmod (m1 : Int) 5) ∈ [40, 41, 42, 43, 44] := by
    rw [Int.tmod_eq_emod_of_nonneg (by omega)]
    have : (m1 : Int) % 5 = 0 ∨ (m1 : Int) % 5 = 1 ∨ (m1 : Int) % 5 = 2 ∨ (m1 : Int) % 5 = 3 ∨ (m1 : Int) % 5 = 4 := by omega
    rcases this with e | e | e | e | e <;> rw [e] <;> decide
  have hm : (Int.tmod (m2 : Int) 2 == 0) ∈ [true, false] := by cases (Int.tmod (m2 : Int) 2 == 0) <;> simp
  generalize (20 + Int.tmod (m0 : Int) 5) = i at hi ⊢
  generalize (40 + Int.tmod (m1 : Int) 5) = j at hj ⊢
  generalize (Int.tmod (m2 : Int) 2 == 0) = m at hm ⊢
  obtain ⟨g1, g2, g3⟩ := all_good m hm i hi j hj
  have e1 := impl_ClientNew_t mHost m i 30 (by decide)
  have e2 := impl_ServerNew_t mHost 10 j 50 (by decide)
  have e3 := spec_ServerNew_t mHost 10 j 50 (by decide)
  rw [g1] at e1
  rw [g2] at e2 e3
  cases hr : meet 12 (newClient mHost m i 30) (newServer mHost 10 j 50) [textT w220] with
  | none => rw [hr] at g3; cases g3
  | some cv =>
    obtain ⟨c, v⟩ := cv
    rw [hr] at g3
    simp only [good, Bool.and_eq_true, decide_eq_true_eq] at g3
    obtain ⟨k0, k1, k2, k3, k4, k5, k6⟩ := g3
    have hL := laws_FnMeets_L11_of (meet_loop 12 0 1010 rfl (by omega) _ _ _ c v hr)
    have hL' : laws_FnMeets_L11 1010 1010 [textT w220] 0 (newClient mHost m i 30) (newServer mHost 10 j 50) = _ := hL
    rw [show (⟨#[109, 120, 46, 97]⟩ : ByteArray) = mHost from rfl]
    simp only [e1, e2, e3, qb_s, impl_Greeting_t, Term.eta, Bool.not_true, br_f, beq_self_eq_true, hL', isRetE_e, isExt_e, br_t, k1, k2, k3, k4]
    rw [← k5, impl_Same_t c.share (by omega), k6]
    simp only [qb_s, decide_true, br_t]
    rfl

theorem own : ownKnob Tryz.prog.godebug = none := by kernel_rfl
theorem laid : laidOutB Tryz.prog = true := by kernel_rfl

theorem powType : (Tryz.prog.globals[gPow]?).map (·.type) = some 158 := by kernel_rfl

theorem tab_of {W : World} (hL : laidMetH Tryz.prog Rows.fnMeetsRow.laid W) : Lib.TabIs Tryz.prog W "internal/strconv.uint64pow10" .u64 Lib.pow10Tab := by
  have h0 : laidMet Tryz.prog Rows.fnMeetsRow.laid W := hL
  have h1 : laidMet Tryz.prog (Rows.fnMeetsRow.laid.drop 2) W := laidMet.tail (laidMet.tail (h0))
  have h2 : Rows.fnMeetsRow.laid.drop 2 = ("internal/strconv.uint64pow10", Lib.tabData .u64 Lib.pow10Tab) :: Rows.fnMeetsRow.laid.drop 3 := by kernel_rfl
  rw [h2] at h1
  exact Lib.tabIs_of_head gPow_is powType Tryz.underlying158 Tryz.underlying145 (by kernel_rfl) (by kernel_rfl) h1

theorem err_es {W : World} (hL : laidMetH Tryz.prog Rows.fnMeetsRow.laid W) : (Gl.err 0).ok W := by
  have h0 : laidMet Tryz.prog Rows.fnMeetsRow.laid W := hL
  have h1 : laidMet Tryz.prog (Rows.fnMeetsRow.laid.drop 5) W := laidMet.tail (laidMet.tail (laidMet.tail (laidMet.tail (laidMet.tail (h0)))))
  have h2 : Rows.fnMeetsRow.laid.drop 5 = ("strconv.ErrSyntax", .iface "*errors.errorString" (.ptr (.agg [.lit (.string [105, 110, 118, 97, 108, 105, 100, 32, 115, 121, 110, 116, 97, 120])]))) :: Rows.fnMeetsRow.laid.drop 6 := by kernel_rfl
  rw [h2] at h1
  exact (err_of_head (t := 117) (by kernel_rfl) (by kernel_rfl) ⟨_, Tryz.underlying117⟩ h1).1

theorem err_er {W : World} (hL : laidMetH Tryz.prog Rows.fnMeetsRow.laid W) : (Gl.err 1).ok W := by
  have h0 : laidMet Tryz.prog Rows.fnMeetsRow.laid W := hL
  have h1 : laidMet Tryz.prog (Rows.fnMeetsRow.laid.drop 4) W := laidMet.tail (laidMet.tail (laidMet.tail (laidMet.tail (h0))))
  have h2 : Rows.fnMeetsRow.laid.drop 4 = ("strconv.ErrRange", .iface "*errors.errorString" (.ptr (.agg [.lit (.string [118, 97, 108, 117, 101, 32, 111, 117, 116, 32, 111, 102, 32, 114, 97, 110, 103, 101])]))) :: Rows.fnMeetsRow.laid.drop 5 := by kernel_rfl
  rw [h2] at h1
  exact (err_of_head (t := 117) (by kernel_rfl) (by kernel_rfl) ⟨_, Tryz.underlying117⟩ h1).1

set_option maxRecDepth 100000 in
set_option maxHeartbeats 8000000 in
theorem contract (H : Type) (enc : TypeId × Value → H) (W : World) (base : Nat) (args : Array Value) (ds gs : List (DataW H)) (before : List MemPlace)
    (hval : ∀ (j : Nat) t v, Tryz.f6.params[j]? = some t → args[j]? = some v → Value.okWide Tryz.prog W .any base t v)
    (hW : DataW.Whole enc Tryz.prog Tryz.f6.params.toList Rows.fnMeetsSpec.vars false W args.toList ds gs before) (hS : W.ShapedOpen Tryz.prog) (hL : laidMetH Tryz.prog Rows.fnMeetsRow.laid W) :
    Calls Tryz.prog 6 args W fun e W' => ∃ v, e = .returned v ∧ Rows.fnMeetsSpec.post enc Tryz.prog Tryz.f6 false true false false W args v W' := by
  have ok_num : (Gl.num .i64 5).ok W := Tryz.laysM146.s1_3 W hS
  have lt_num : ∀ b, (Gl.num .i64 5).bl b → b < W.heap.size := fun b hb => by
    obtain ⟨m, hm⟩ := ok_num
    cases hb
    exact World.block_lt_of_cell? _ _ hm
  obtain ⟨ok_tab, lt_tab0⟩ := Gl.tab_of gPow_is (tab_of hL)
  have lt_tab : ∀ b, (Gl.tab .u64 Lib.pow10Tab gPow).bl b → b < W.heap.size := fun b hb => by cases hb; exact lt_tab0
  have ok_es : (Gl.err 0).ok W := err_es hL
  have lt_es : ∀ b, (Gl.err 0).bl b → b < W.heap.size := fun b hb => by
    obtain ⟨ev, hm, _⟩ := ok_es
    cases hb
    exact World.block_lt_of_cell? _ _ hm
  have ok_er : (Gl.err 1).ok W := err_er hL
  have lt_er : ∀ b, (Gl.err 1).bl b → b < W.heap.size := fun b hb => by
    obtain ⟨ev, hm, _⟩ := ok_er
    cases hb
    exact World.block_lt_of_cell? _ _ hm
  have hok : GG.ok W := ⟨ok_num, ⟨ok_tab, ⟨ok_es, ok_er⟩⟩⟩
  have hlt : ∀ b, GG.bl b → b < W.heap.size := fun b hb => hb.elim (fun hb => lt_num b hb) (fun hb => hb.elim (fun hb => lt_tab b hb) (fun hb => hb.elim (fun hb => lt_es b hb) (fun hb => lt_er b hb)))
  have hW' := hW
  obtain ⟨p, q, hA0, hV, rfl, hfz, hnd⟩ := hW
  have hA : DataW.TrodAll enc Tryz.prog W 0 (fun _ => true) true Tryz.f6.params.toList args.toList ds p := hA0
  rw [Tryz.params6] at hA hval
  obtain ⟨v0, vs0, d0, ds0, p0, q0, hargs, rfl, rfl, h0, r0⟩ := trodAll_cons hA
  obtain ⟨rfl, rfl, rfl⟩ := trodAll_nil r0
  obtain rfl : args = #[v0] := by cases args; simp_all
  obtain ⟨rfl, rfl⟩ := trodVars_none hV
  obtain ⟨f0, ⟨t0, x0, rfl⟩, e0, b0⟩ := rd_one (a := .sl .byte) (h := hpOf .arg 0 []) (loc := fun _ => none) ksOk' (by kernel_rfl) (by kernel_rfl) (hval 0 22 v0 rfl rfl) h0
  have e0 := VW.loosen e0
  refine (law_calls_at (G := GG) (vs := [v0]) progOK hok hlt (law x0 b0) rfl (by unfold VWs VWs ; exact ⟨e0, trivial⟩)).mono fun e W1 ⟨he, a1, a2, a3, a4⟩ => ?_
  subst he
  exact ⟨_, rfl, law_post (tb := 4) rfl rfl rfl (by kernel_rfl) laid (by rw [Tryz.params6]; intro t ht; simp at ht; subst ht; exact ⟨by kernel_rfl, of_decide_eq_true (by kernel_rfl)⟩) hW' a1 a2 a4⟩

set_option maxRecDepth 100000 in
set_option maxHeartbeats 8000000 in
theorem closed : joinedFacts Tryz.prog 6 Tryz.f6 Rows.fnMeetsSpec Rows.fnMeetsRow = true := by
  unfold joinedFacts
  simp only [Bool.and_eq_true]
  and_intros
  all_goals (as_aux_lemma => kernel_rfl)

set_option maxRecDepth 100000 in
set_option maxHeartbeats 8000000 in
theorem lifted (os : Os) (started : os.Started) (H : Type) (enc : TypeId × Value → H) :
    ReturnsInHanded {} Tryz.checked os 6 .any (fun w args => (Rows.fnMeetsSpec.pre enc Tryz.prog Tryz.f6 [] false w args ∧ laidMetH Tryz.prog Rows.fnMeetsRow.laid w) ∧ sizedMet enc Tryz.prog Tryz.f6 (OpenSpec.ofChange Rows.fnMeetsSpec) false w args)
      (Rows.fnMeetsSpec.post enc Tryz.prog Tryz.f6 false true false false) := by
  refine returnsInHanded_of_change_and_shaped (C := Tryz.checked) (X := fun w _ => laidMetH Tryz.prog Rows.fnMeetsRow.laid w) (fun _ _ _ hh h => h.of_heap hh) own started (by kernel_rfl) Tryz.func6
    (ChangeSpec.witness_shaped (enc := enc) (C := Tryz.checked) (os := os) (X := fun w _ => laidMetH Tryz.prog Rows.fnMeetsRow.laid w) false (World.laidAll Tryz.prog os Rows.fnMeetsRow.laid) #[.slice none 0 0] 8 (World.laidAll_os _ _ _) (World.shaped_of_ZipB (by kernel_rfl) (by kernel_rfl)) (by kernel_rfl) (by kernel_rfl) (by kernel_rfl) (by rw [MakeChecks.laidMetH_plain _ _ _ (by kernel_rfl)]; exact laidMet_laidAll _ (by kernel_rfl) (by kernel_rfl))) ?_
  intro W base args ds gs before hval0 hW _ _ hS hL _
  exact contract H enc W base args ds gs before hval0 hW hS hL

set_option maxRecDepth 100000 in
set_option maxHeartbeats 8000000 in
theorem over : Rows.FnMeetsSaid :=
  OpenClaim.holds_of_wide 6 Tryz.f6 rfl rfl rfl rfl rfl rfl rfl ⟨rfl, rfl, rfl, rfl, rfl⟩ rfl rfl rfl rfl rfl (by as_aux_lemma => kernel_rfl) Tryz.func6 closed
    (of_decide_eq_true (by as_aux_lemma => kernel_rfl)) (by unfold Func.isWrapper; first | (rw [if_pos (by decide +kernel)]; kernel_rfl) | (rw [if_neg (by decide +kernel)]; exact ⟨rfl, rfl⟩))
    (fun os started H enc _ => lifted os started H enc)

set_option maxRecDepth 100000 in
set_option maxHeartbeats 8000000 in
theorem proved : Rows.FnMeetsCardSaid :=
  Claim7.holds_tied_plain_at .later [] [.data, .data, .data, .data, .sentinel, .sentinel, .pinned] true (true, "098d56886bef0d3f39e1f17405596c4bc75520f883eb5d9edff715e4cb46b689") true
    over (fun _ h => by cases h) (by as_aux_lemma => kernel_rfl) (fun _ h => by cases h) fnMeets_row_tie rfl ⟨rfl, rfl⟩ (by as_aux_lemma => kernel_rfl) rfl
    (fun f fn hf hfn => by
      obtain rfl : f = 6 := Option.some.inj ((show Tryz.prog.funcNamed "loop.example/g00328/laws.FnMeets" = some 6 by as_aux_lemma => kernel_rfl).symm.trans hf) |>.symm
      obtain rfl : fn = Tryz.f6 := (Option.some.inj (Tryz.func6.symm.trans hfn)).symm
      exact ⟨by as_aux_lemma => kernel_rfl, fun j t ht => by
        rw [Tryz.params6] at ht
        have hmem : t ∈ [22] := List.mem_of_getElem? (by simpa using ht)
        simp only [List.mem_cons, List.not_mem_nil, or_false] at hmem
        subst hmem
        exact (show Tryz.prog.wantsStandIn 22 = false by kernel_rfl)⟩)
    (by as_aux_lemma => kernel_rfl)

end Go.Proofs.YtgegmojoakkohaaGreatDoor.fnMeets
