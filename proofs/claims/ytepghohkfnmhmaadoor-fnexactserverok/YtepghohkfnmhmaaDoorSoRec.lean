/-
  What the laws' own helpers come to: structs and lists of them.
-/
import Derived.Test.YtepghohkfnmhmaaDoorSoHelp
import Derived.Test.YtepghohkfnmhmaaDoorVm6
namespace Go.Proofs.YtepghohkfnmhmaaDoor
open Go.Vm
set_option linter.unusedVariables false
set_option linter.unusedSimpArgs false

theorem eqIntS_of (a b : List Int) (ha : a.length < 9223372036854775807) : laws_eqIntS_T a b = some (decide (a = b)) := by
  refine laws_eqIntS_of (a.length + 1) a b ?_
  unfold laws_eqIntS_R
  by_cases hl : a.length = b.length
  · rw [show ((a.length : Int) != (b.length : Int)) = false by simp [hl], br_f]
    refine (qb_run (laws_eqIntS_L4_if (lp_eq' a b hl (fun i => laws_eqIntS_S4 false a false b false i) (.ext 0, laws_eqIntS_O4 false) (.ret, laws_eqIntS_O4 false) (by rw [laws_eqIntS_round4, lt_self]; rfl) rfl rfl
      (fun i x y hx hy hi => by
        rw [laws_eqIntS_round4, lt_t hi, idx_nat hx, idx_nat hy]
        simp only [br_t, qb_s, not_beq_bytes, bne_int]
        rw [wrap_succ (by omega)]
        by_cases he : x = y <;> simp [he, br_t, br_f]) (a.length + 1) (by omega)))).trans ?_
    by_cases hab : a = b <;> simp [hab, isRetE_r, isRetE_e, isExt_e, br_t, br_f]
  · rw [show ((a.length : Int) != (b.length : Int)) = true by simp; omega, br_t]
    simp [len_ne hl]

theorem toIntS_of (a : List Int) (ha : a.length ≤ 1000000000) : laws_toIntS_T a = some a := by
  refine laws_toIntS_of (a.length + 1) a ?_
  unfold laws_toIntS_R
  rw [show (decide ((a.length : Int) = (a.length : Int)) && decide (0 ≤ (a.length : Int)) && ((a.length : Int)).toNat.ble appMax) = true by simp [appMax]; omega, br_t, show ((a.length : Int)).toNat = a.length by omega]
  refine (qb_run (laws_toIntS_L3_of (lp_copy a (zeroEl .int) (fun i l => laws_toIntS_S3 false a l i) (fun l => laws_toIntS_O3 l) (fun _ _ => by rw [laws_toIntS_round3, lt_self]; rfl)
    (fun i x l hx hi hinv => by
      obtain ⟨y, hy⟩ : ∃ y, l[i]? = some y := ⟨l[i]'(by omega), by simp⟩
      rw [laws_toIntS_round3, lt_t hi, idx_nat hx]
      simp only [br_t, qb_s, idx_nat hy]
      rw [show ((i : Int)).toNat = i by omega, hy, wrap_succ (by omega)]
      simp only [qb_s, Term.eta]) (a.length + 1) (by omega)))).trans ?_
  rfl

theorem szIntS_t (a : List Int) (left : Int) (h0 : 0 ≤ left) (h1 : left ≤ 1048576) (ha : a.length ≤ 9223372036854775807) : laws_szIntS_T a left = some (vLeft a.length left) := by
  refine laws_szIntS_of 0 a left ?_
  unfold laws_szIntS_R
  rw [wrap_id (by omega) (by omega)]
  by_cases hl : (a.length : Int) ≤ left
  · rw [vLeft_yes hl, show decide (left - (a.length : Int) < 0) = false by simp; omega]
    rfl
  · rw [vLeft_not hl, show decide (left - (a.length : Int) < 0) = true by simp; omega]
    rfl









theorem toServer_t (a : Server) (h : Server.cost a ≤ 1000000000) : laws_toServer_T a = some a := by
  have hcost : Server.cost a = a.host.size + (a.cert.cost + (a.share.cost + (a.got.length))) := by unfold Server.cost; first | rfl | omega
  refine laws_toServer_of 0 a ?_
  unfold laws_toServer_R
  rw [toTerm_t a.cert (by omega), qb_s]
  rw [toTerm_t a.share (by omega), qb_s]
  rw [toIntS_of a.got (by omega), qb_s]
  first | rfl | (simp only [Term.eta])

theorem eqServer_t (a b : Server) (h : Server.cost a < 9223372036854775807) : laws_eqServer_T a b = some (decide (a = b)) := by
  have hcost : Server.cost a = a.host.size + (a.cert.cost + (a.share.cost + (a.got.length))) := by unfold Server.cost; first | rfl | omega
  refine laws_eqServer_of 0 a b ?_
  unfold laws_eqServer_R
  have e0 := eqTerm_t a.cert (by omega) b.cert
  have e1 := eqTerm_t a.share (by omega) b.share
  have e2 := eqIntS_of a.got b.got (by omega)
  simp only [e0, e1, e2, qb_s, br_if, not_beq_bytes, bne_int]
  clear e0 e1 e2 hcost h
  obtain ⟨a0, a1, a2, a3, a4, a5, a6, a7, a8, a9⟩ := a
  obtain ⟨b0, b1, b2, b3, b4, b5, b6, b7, b8, b9⟩ := b
  simp only [Server.mk.injEq]
  by_cases c0 : a0 = b0
  case neg => simp [c0]
  by_cases c1 : a1 = b1
  case neg => simp [c0, c1]
  by_cases c2 : a2 = b2
  case neg => simp [c0, c1, c2]
  by_cases c3 : a3 = b3
  case neg => simp [c0, c1, c2, c3]
  by_cases c4 : a4 = b4
  case neg => simp [c0, c1, c2, c3, c4]
  by_cases c5 : a5 = b5
  case neg => simp [c0, c1, c2, c3, c4, c5]
  by_cases c6 : a6 = b6
  case neg => simp [c0, c1, c2, c3, c4, c5, c6]
  by_cases c7 : a7 = b7
  case neg => simp [c0, c1, c2, c3, c4, c5, c6, c7]
  by_cases c8 : a8 = b8
  case neg => simp [c0, c1, c2, c3, c4, c5, c6, c7, c8]
  by_cases c9 : a9 = b9
  case neg => simp [c0, c1, c2, c3, c4, c5, c6, c7, c8, c9]
  simp [c0, c1, c2, c3, c4, c5, c6, c7, c8, c9]

theorem szServer_t (a : Server) (hb : ∃ n, ∀ f ∈ Server.cells a, BdF n f) (left : Int) (h0 : 0 ≤ left) (h1 : left ≤ 1048576) : laws_szServer_T a left = some (vLeft (Server.cost a) left) := by
  have hcost : Server.cost a = a.host.size + (a.cert.cost + (a.share.cost + (a.got.length))) := by unfold Server.cost; first | rfl | omega
  have hmax : maxLen = 9223372036854775807 := rfl
  refine laws_szServer_of 0 a left ?_
  unfold laws_szServer_R
  rw [hcost]
  have b0 := bd_str (bd_of hb (f := .str a.host) (by simp [Server.cells]))
  rw [wrap_id (by omega) (by omega)]
  by_cases g0 : (a.host.size : Int) ≤ left
  case neg => rw [show decide (left - (a.host.size : Int) < 0) = true by simp; omega, br_t, vLeft_no g0]
  rw [show decide (left - (a.host.size : Int) < 0) = false by simp; omega, br_f, vLeft_add g0]
  have b1 : a.cert.Bd := by
    obtain ⟨n, hb⟩ := hb
    exact Term.Bd.of (n := n) fun f hf => hb f (by simp only [Term.cells, List.mem_cons, List.not_mem_nil, or_false] at hf; rcases hf with rfl | rfl | rfl | rfl <;> simp [Server.cells])
  rw [szTerm_t a.cert b1 (left - ((a.host.size : Nat) : Int)) (by omega) (by omega), qb_s, vLeft_ge (by omega)]
  by_cases g1 : ((a.cert.cost : Nat) : Int) ≤ left - ((a.host.size : Nat) : Int)
  case neg => rw [decide_eq_false g1, vLeft_no g1]; rfl
  rw [decide_eq_true g1, vLeft_yes g1, vLeft_add g1, Bool.not_true, br_f]
  have b2 : a.share.Bd := by
    obtain ⟨n, hb⟩ := hb
    exact Term.Bd.of (n := n) fun f hf => hb f (by simp only [Term.cells, List.mem_cons, List.not_mem_nil, or_false] at hf; rcases hf with rfl | rfl | rfl | rfl <;> simp [Server.cells])
  rw [szTerm_t a.share b2 (left - ((a.host.size : Nat) : Int) - ((a.cert.cost : Nat) : Int)) (by omega) (by omega), qb_s, vLeft_ge (by omega)]
  by_cases g2 : ((a.share.cost : Nat) : Int) ≤ left - ((a.host.size : Nat) : Int) - ((a.cert.cost : Nat) : Int)
  case neg => rw [decide_eq_false g2, vLeft_no g2]; rfl
  rw [decide_eq_true g2, vLeft_yes g2, vLeft_add g2, Bool.not_true, br_f]
  have b3 := (bd_sl (bd_of hb (f := .sl false .int a.got) (by simp [Server.cells]))).1
  rw [szIntS_t a.got (left - ((a.host.size : Nat) : Int) - ((a.cert.cost : Nat) : Int) - ((a.share.cost : Nat) : Int)) (by omega) (by omega) b3, qb_s, vLeft_ge (by omega)]
  by_cases g3 : ((a.got.length : Nat) : Int) ≤ left - ((a.host.size : Nat) : Int) - ((a.cert.cost : Nat) : Int) - ((a.share.cost : Nat) : Int)
  case neg => rw [decide_eq_false g3, vLeft_not g3]; rfl
  rw [decide_eq_true g3, vLeft_yes g3]; rfl
























end Go.Proofs.YtepghohkfnmhmaaDoor
