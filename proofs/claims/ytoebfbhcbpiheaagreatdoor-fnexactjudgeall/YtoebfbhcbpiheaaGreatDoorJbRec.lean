/-
  What the laws' own helpers come to: structs and lists of them.
-/
import Derived.Test.YtoebfbhcbpiheaaGreatDoorJbHelp
import Derived.Test.YtoebfbhcbpiheaaGreatDoorVm6
namespace Go.Proofs.YtoebfbhcbpiheaaGreatDoor
open Go.Vm
set_option linter.unusedVariables false
set_option linter.unusedSimpArgs false

theorem eqIntS_of (a b : List Int) (ha : a.length < 9223372036854775807) : laws_eqIntS_T a b = some (decide (a = b)) := by
  refine laws_eqIntS_of (a.length + 1) a b ?_
  unfold laws_eqIntS_R
  by_cases hl : a.length = b.length
  · rw [show ((a.length : Int) != (b.length : Int)) = false by simp [hl], br_f]
    refine (qb_run (laws_eqIntS_L4_if (lp_eq' a b hl (fun i => laws_eqIntS_S4 false a false b false i) (.ext 0, laws_eqIntS_O4 false) (.ret, laws_eqIntS_O4 false) (by rw [laws_eqIntS_round4, lt_self]; rfl) rfl rfl
      (fun i x y hx hy hi => by
        rw [laws_eqIntS_round4, lt_t hi, idx_nat hx, idx_nat hy]
        simp only [br_t, qb_s, not_beq_bytes, bne_int]
        rw [wrap_succ (by omega)]
        by_cases he : x = y <;> simp [he, br_t, br_f]) (a.length + 1) (by omega)))).trans ?_
    by_cases hab : a = b <;> simp [hab, isRetE_r, isRetE_e, isExt_e, br_t, br_f]
  · rw [show ((a.length : Int) != (b.length : Int)) = true by simp; omega, br_t]
    simp [len_ne hl]

theorem toIntS_of (a : List Int) (ha : a.length ≤ 1000000000) : laws_toIntS_T a = some a := by
  refine laws_toIntS_of (a.length + 1) a ?_
  unfold laws_toIntS_R
  rw [show (decide ((a.length : Int) = (a.length : Int)) && decide (0 ≤ (a.length : Int)) && ((a.length : Int)).toNat.ble appMax) = true by simp [appMax]; omega, br_t, show ((a.length : Int)).toNat = a.length by omega]
  refine (qb_run (laws_toIntS_L3_of (lp_copy a (zeroEl .int) (fun i l => laws_toIntS_S3 false a l i) (fun l => laws_toIntS_O3 l) (fun _ _ => by rw [laws_toIntS_round3, lt_self]; rfl)
    (fun i x l hx hi hinv => by
      obtain ⟨y, hy⟩ : ∃ y, l[i]? = some y := ⟨l[i]'(by omega), by simp⟩
      rw [laws_toIntS_round3, lt_t hi, idx_nat hx]
      simp only [br_t, qb_s, idx_nat hy]
      rw [show ((i : Int)).toNat = i by omega, hy, wrap_succ (by omega)]
      simp only [qb_s, Term.eta]) (a.length + 1) (by omega)))).trans ?_
  rfl

theorem szIntS_t (a : List Int) (left : Int) (h0 : 0 ≤ left) (h1 : left ≤ 1048576) (ha : a.length ≤ 9223372036854775807) : laws_szIntS_T a left = some (vLeft a.length left) := by
  refine laws_szIntS_of 0 a left ?_
  unfold laws_szIntS_R
  rw [wrap_id (by omega) (by omega)]
  by_cases hl : (a.length : Int) ≤ left
  · rw [vLeft_yes hl, show decide (left - (a.length : Int) < 0) = false by simp; omega]
    rfl
  · rw [vLeft_not hl, show decide (left - (a.length : Int) < 0) = true by simp; omega]
    rfl

theorem eqStringS_of (a b : List ByteArray) (ha : a.length < 9223372036854775807) : laws_eqStringS_T a b = some (decide (a = b)) := by
  refine laws_eqStringS_of (a.length + 1) a b ?_
  unfold laws_eqStringS_R
  by_cases hl : a.length = b.length
  · rw [show ((a.length : Int) != (b.length : Int)) = false by simp [hl], br_f]
    refine (qb_run (laws_eqStringS_L4_if (lp_eq' a b hl (fun i => laws_eqStringS_S4 false a false b false i) (.ext 0, laws_eqStringS_O4 false) (.ret, laws_eqStringS_O4 false) (by rw [laws_eqStringS_round4, lt_self]; rfl) rfl rfl
      (fun i x y hx hy hi => by
        rw [laws_eqStringS_round4, lt_t hi, idx_nat hx, idx_nat hy]
        simp only [br_t, qb_s, not_beq_bytes, bne_int]
        rw [wrap_succ (by omega)]
        by_cases he : x = y <;> simp [he, br_t, br_f]) (a.length + 1) (by omega)))).trans ?_
    by_cases hab : a = b <;> simp [hab, isRetE_r, isRetE_e, isExt_e, br_t, br_f]
  · rw [show ((a.length : Int) != (b.length : Int)) = true by simp; omega, br_t]
    simp [len_ne hl]

theorem toStringS_of (a : List ByteArray) (ha : a.length ≤ 1000000000) : laws_toStringS_T a = some a := by
  refine laws_toStringS_of (a.length + 1) a ?_
  unfold laws_toStringS_R
  rw [show (decide ((a.length : Int) = (a.length : Int)) && decide (0 ≤ (a.length : Int)) && ((a.length : Int)).toNat.ble appMax) = true by simp [appMax]; omega, br_t, show ((a.length : Int)).toNat = a.length by omega]
  refine (qb_run (laws_toStringS_L3_of (lp_copy a (zeroEl .str) (fun i l => laws_toStringS_S3 false a l i) (fun l => laws_toStringS_O3 l) (fun _ _ => by rw [laws_toStringS_round3, lt_self]; rfl)
    (fun i x l hx hi hinv => by
      obtain ⟨y, hy⟩ : ∃ y, l[i]? = some y := ⟨l[i]'(by omega), by simp⟩
      rw [laws_toStringS_round3, lt_t hi, idx_nat hx]
      simp only [br_t, qb_s, idx_nat hy]
      rw [show ((i : Int)).toNat = i by omega, hy, wrap_succ (by omega)]
      simp only [qb_s, Term.eta]) (a.length + 1) (by omega)))).trans ?_
  rfl

theorem szStringS_of (a : List ByteArray) (left : Int) (h0 : 0 ≤ left) (h1 : left ≤ 1048576) (ha : a.length ≤ 9223372036854775807) (ih : ∀ x ∈ a, x.size ≤ 9223372036854775807) :
    laws_szStringS_T a left = some (vLeft (a.length + sumC ByteArray.size a) left) := by
  refine laws_szStringS_of (a.length + 1) a left ?_
  unfold laws_szStringS_R
  rw [wrap_id (by omega) (by omega)]
  by_cases hl : (a.length : Int) ≤ left
  · rw [show decide (left - (a.length : Int) < 0) = false by simp; omega, br_f]
    have hloop := lp_sz (P := Tryz.prog) (cfg := cfg) (T := RN) (n := a.length + 1) (d := 5) (f := 27) (r := 5) (na := 0) a ByteArray.size (fun i left => laws_szStringS_S5 false a left 0 i) (fun left => laws_szStringS_O5 left 0) (fun m => laws_szStringS_O5 m (-1))
      (fun _ _ _ => by rw [laws_szStringS_round5, lt_self]; rfl)
      (fun i x left hx hi h0 h1 => by
        have hxs := ih x (List.mem_of_getElem? hx)
        rw [laws_szStringS_round5, lt_t hi, idx_nat hx]
        simp only [br_t, qb_s]
        rw [wrap_id (by omega) (by omega)]
        refine ⟨fun he => ?_, fun he => ⟨left - x.size, ?_⟩⟩
        · rw [show decide (left - (x.size : Int) < 0) = false by simp; omega, wrap_succ (by omega)]
          rfl
        · rw [show decide (left - (x.size : Int) < 0) = true by simp; omega]
          rfl)
      (left - a.length) (a.length + 1) (by omega) (by omega) (by omega)
    by_cases hc : ((sumC ByteArray.size a : Nat) : Int) ≤ left - a.length
    · refine (qb_run (laws_szStringS_L5_of (hloop.1 hc))).trans ?_
      rw [vLeft_yes (by omega)]
      simp only [isRetE_e, isExt_e, br_t, br_f]
      exact some_congr (by omega)
    · obtain ⟨m, hm⟩ := hloop.2 hc
      refine (qb_run (laws_szStringS_L5_of hm)).trans ?_
      rw [vLeft_not (by omega)]
      rfl
  · rw [show decide (left - (a.length : Int) < 0) = true by simp; omega, vLeft_not (by omega)]
    rfl

theorem toPolicy_t (a : Policy) (h : Policy.cost a ≤ 1000000000) : laws_toPolicy_T a = some a := by
  have hcost : Policy.cost a = a.domain.size + ((a.mx.length + sumC ByteArray.size a.mx)) := by unfold Policy.cost; first | rfl | omega
  refine laws_toPolicy_of 0 a ?_
  unfold laws_toPolicy_R
  rw [toStringS_of a.mx (by omega), qb_s]
  all_goals first | rfl | (simp only [Term.eta])

theorem eqPolicy_t (a b : Policy) (h : Policy.cost a < 9223372036854775807) : laws_eqPolicy_T a b = some (decide (a = b)) := by
  have hcost : Policy.cost a = a.domain.size + ((a.mx.length + sumC ByteArray.size a.mx)) := by unfold Policy.cost; first | rfl | omega
  refine laws_eqPolicy_of 0 a b ?_
  unfold laws_eqPolicy_R
  have e0 := eqStringS_of a.mx b.mx (by omega)
  simp only [e0, qb_s, br_if, not_beq_bytes, bne_int]
  clear e0 hcost h
  obtain ⟨a0, a1, a2, a3⟩ := a
  obtain ⟨b0, b1, b2, b3⟩ := b
  simp only [Policy.mk.injEq]
  by_cases c0 : a0 = b0
  case neg => simp [c0]
  by_cases c1 : a1 = b1
  case neg => simp [c0, c1]
  by_cases c2 : a2 = b2
  case neg => simp [c0, c1, c2]
  by_cases c3 : a3 = b3
  case neg => simp [c0, c1, c2, c3]
  simp [c0, c1, c2, c3]

theorem szPolicy_t (a : Policy) (hb : ∃ n, ∀ f ∈ Policy.cells a, BdF n f) (left : Int) (h0 : 0 ≤ left) (h1 : left ≤ 1048576) : laws_szPolicy_T a left = some (vLeft (Policy.cost a) left) := by
  have hcost : Policy.cost a = a.domain.size + ((a.mx.length + sumC ByteArray.size a.mx)) := by unfold Policy.cost; first | rfl | omega
  have hmax : maxLen = 9223372036854775807 := rfl
  refine laws_szPolicy_of 0 a left ?_
  unfold laws_szPolicy_R
  rw [hcost]
  have b0 := bd_str (bd_of hb (f := .str a.domain) (by simp [Policy.cells]))
  rw [wrap_id (by omega) (by omega)]
  by_cases g0 : (a.domain.size : Int) ≤ left
  case neg => rw [show decide (left - (a.domain.size : Int) < 0) = true by simp; omega, br_t, vLeft_no g0]
  rw [show decide (left - (a.domain.size : Int) < 0) = false by simp; omega, br_f, vLeft_add g0]
  obtain ⟨b1, m1, k1⟩ := bd_sl (bd_of hb (f := .sl false .str a.mx) (by simp [Policy.cells]))
  rw [szStringS_of a.mx (left - ((a.domain.size : Nat) : Int)) (by omega) (by omega) b1 (fun x hx => bd_str ⟨m1, k1 x hx (.str x) (by simp [cellsOf])⟩), qb_s, vLeft_ge (by omega)]
  by_cases g1 : (((a.mx.length + sumC ByteArray.size a.mx) : Nat) : Int) ≤ left - ((a.domain.size : Nat) : Int)
  case neg => rw [decide_eq_false g1, vLeft_not g1]; rfl
  rw [decide_eq_true g1, vLeft_yes g1]; rfl

theorem toHost_t (a : Host) (h : Host.cost a ≤ 1000000000) : laws_toHost_T a = some a := by
  have hcost : Host.cost a = a.name.size := by unfold Host.cost; first | rfl | omega
  refine laws_toHost_of 0 a ?_
  unfold laws_toHost_R
  all_goals first | rfl | (simp only [Term.eta])

theorem eqHost_t (a b : Host) (h : Host.cost a < 9223372036854775807) : laws_eqHost_T a b = some (decide (a = b)) := by
  have hcost : Host.cost a = a.name.size := by unfold Host.cost; first | rfl | omega
  refine laws_eqHost_of 0 a b ?_
  unfold laws_eqHost_R
  simp only [br_if, not_beq_bytes, bne_int]
  clear hcost h
  obtain ⟨a0, a1, a2⟩ := a
  obtain ⟨b0, b1, b2⟩ := b
  simp only [Host.mk.injEq]
  by_cases c0 : a0 = b0
  case neg => simp [c0]
  by_cases c1 : a1 = b1
  case neg => simp [c0, c1]
  by_cases c2 : a2 = b2
  case neg => simp [c0, c1, c2]
  simp [c0, c1, c2]

theorem szHost_t (a : Host) (hb : ∃ n, ∀ f ∈ Host.cells a, BdF n f) (left : Int) (h0 : 0 ≤ left) (h1 : left ≤ 1048576) : laws_szHost_T a left = some (vLeft (Host.cost a) left) := by
  have hcost : Host.cost a = a.name.size := by unfold Host.cost; first | rfl | omega
  have hmax : maxLen = 9223372036854775807 := rfl
  refine laws_szHost_of 0 a left ?_
  unfold laws_szHost_R
  rw [hcost]
  have b0 := bd_str (bd_of hb (f := .str a.name) (by simp [Host.cells]))
  rw [wrap_id (by omega) (by omega)]
  by_cases g0 : (a.name.size : Int) ≤ left
  case neg => rw [show decide (left - (a.name.size : Int) < 0) = true by simp; omega, br_t, vLeft_not g0]
  rw [show decide (left - (a.name.size : Int) < 0) = false by simp; omega, br_f, vLeft_yes g0]

theorem toLetter_t (a : Letter) (h : Letter.cost a ≤ 1000000000) : laws_toLetter_T a = some a := by
  have hcost : Letter.cost a = a.domain.size := by unfold Letter.cost; first | rfl | omega
  refine laws_toLetter_of 0 a ?_
  unfold laws_toLetter_R
  all_goals first | rfl | (simp only [Term.eta])

theorem eqLetter_t (a b : Letter) (h : Letter.cost a < 9223372036854775807) : laws_eqLetter_T a b = some (decide (a = b)) := by
  have hcost : Letter.cost a = a.domain.size := by unfold Letter.cost; first | rfl | omega
  refine laws_eqLetter_of 0 a b ?_
  unfold laws_eqLetter_R
  simp only [br_if, not_beq_bytes, bne_int]
  clear hcost h
  obtain ⟨a0, a1, a2, a3, a4⟩ := a
  obtain ⟨b0, b1, b2, b3, b4⟩ := b
  simp only [Letter.mk.injEq]
  by_cases c0 : a0 = b0
  case neg => simp [c0]
  by_cases c1 : a1 = b1
  case neg => simp [c0, c1]
  by_cases c2 : a2 = b2
  case neg => simp [c0, c1, c2]
  by_cases c3 : a3 = b3
  case neg => simp [c0, c1, c2, c3]
  by_cases c4 : a4 = b4
  case neg => simp [c0, c1, c2, c3, c4]
  simp [c0, c1, c2, c3, c4]

theorem szLetter_t (a : Letter) (hb : ∃ n, ∀ f ∈ Letter.cells a, BdF n f) (left : Int) (h0 : 0 ≤ left) (h1 : left ≤ 1048576) : laws_szLetter_T a left = some (vLeft (Letter.cost a) left) := by
  have hcost : Letter.cost a = a.domain.size := by unfold Letter.cost; first | rfl | omega
  have hmax : maxLen = 9223372036854775807 := rfl
  refine laws_szLetter_of 0 a left ?_
  unfold laws_szLetter_R
  rw [hcost]
  have b0 := bd_str (bd_of hb (f := .str a.domain) (by simp [Letter.cells]))
  rw [wrap_id (by omega) (by omega)]
  by_cases g0 : (a.domain.size : Int) ≤ left
  case neg => rw [show decide (left - (a.domain.size : Int) < 0) = true by simp; omega, br_t, vLeft_not g0]
  rw [show decide (left - (a.domain.size : Int) < 0) = false by simp; omega, br_f, vLeft_yes g0]


theorem toClient_t (a : Client) (h : Client.cost a ≤ 1000000000) : laws_toClient_T a = some a := by
  have hcost : Client.cost a = a.host.size + (a.share.cost) := by unfold Client.cost; first | rfl | omega
  refine laws_toClient_of 0 a ?_
  unfold laws_toClient_R
  rw [toTerm_t a.share (by omega), qb_s]
  all_goals first | rfl | (simp only [Term.eta])

theorem eqClient_t (a b : Client) (h : Client.cost a < 9223372036854775807) : laws_eqClient_T a b = some (decide (a = b)) := by
  have hcost : Client.cost a = a.host.size + (a.share.cost) := by unfold Client.cost; first | rfl | omega
  refine laws_eqClient_of 0 a b ?_
  unfold laws_eqClient_R
  have e0 := eqTerm_t a.share (by omega) b.share
  simp only [e0, qb_s, br_if, not_beq_bytes, bne_int]
  clear e0 hcost h
  obtain ⟨a0, a1, a2, a3, a4, a5, a6, a7, a8, a9⟩ := a
  obtain ⟨b0, b1, b2, b3, b4, b5, b6, b7, b8, b9⟩ := b
  simp only [Client.mk.injEq]
  by_cases c0 : a0 = b0
  case neg => simp [c0]
  by_cases c1 : a1 = b1
  case neg => simp [c0, c1]
  by_cases c2 : a2 = b2
  case neg => simp [c0, c1, c2]
  by_cases c3 : a3 = b3
  case neg => simp [c0, c1, c2, c3]
  by_cases c4 : a4 = b4
  case neg => simp [c0, c1, c2, c3, c4]
  by_cases c5 : a5 = b5
  case neg => simp [c0, c1, c2, c3, c4, c5]
  by_cases c6 : a6 = b6
  case neg => simp [c0, c1, c2, c3, c4, c5, c6]
  by_cases c7 : a7 = b7
  case neg => simp [c0, c1, c2, c3, c4, c5, c6, c7]
  by_cases c8 : a8 = b8
  case neg => simp [c0, c1, c2, c3, c4, c5, c6, c7, c8]
  by_cases c9 : a9 = b9
  case neg => simp [c0, c1, c2, c3, c4, c5, c6, c7, c8, c9]
  simp [c0, c1, c2, c3, c4, c5, c6, c7, c8, c9]

theorem szClient_t (a : Client) (hb : ∃ n, ∀ f ∈ Client.cells a, BdF n f) (left : Int) (h0 : 0 ≤ left) (h1 : left ≤ 1048576) : laws_szClient_T a left = some (vLeft (Client.cost a) left) := by
  have hcost : Client.cost a = a.host.size + (a.share.cost) := by unfold Client.cost; first | rfl | omega
  have hmax : maxLen = 9223372036854775807 := rfl
  refine laws_szClient_of 0 a left ?_
  unfold laws_szClient_R
  rw [hcost]
  have b0 := bd_str (bd_of hb (f := .str a.host) (by simp [Client.cells]))
  rw [wrap_id (by omega) (by omega)]
  by_cases g0 : (a.host.size : Int) ≤ left
  case neg => rw [show decide (left - (a.host.size : Int) < 0) = true by simp; omega, br_t, vLeft_no g0]
  rw [show decide (left - (a.host.size : Int) < 0) = false by simp; omega, br_f, vLeft_add g0]
  have b1 : a.share.Bd := by
    obtain ⟨n, hb⟩ := hb
    exact Term.Bd.of (n := n) fun f hf => hb f (by simp only [Term.cells, List.mem_cons, List.not_mem_nil, or_false] at hf; rcases hf with rfl | rfl | rfl | rfl <;> simp [Client.cells])
  rw [szTerm_t a.share b1 (left - ((a.host.size : Nat) : Int)) (by omega) (by omega), qb_s, vLeft_ge (by omega)]
  by_cases g1 : ((a.share.cost : Nat) : Int) ≤ left - ((a.host.size : Nat) : Int)
  case neg => rw [decide_eq_false g1, vLeft_not g1]; rfl
  rw [decide_eq_true g1, vLeft_yes g1]; rfl

theorem toServer_t (a : Server) (h : Server.cost a ≤ 1000000000) : laws_toServer_T a = some a := by
  have hcost : Server.cost a = a.host.size + (a.cert.cost + (a.share.cost + (a.got.length))) := by unfold Server.cost; first | rfl | omega
  refine laws_toServer_of 0 a ?_
  unfold laws_toServer_R
  rw [toTerm_t a.cert (by omega), qb_s]
  rw [toTerm_t a.share (by omega), qb_s]
  rw [toIntS_of a.got (by omega), qb_s]
  all_goals first | rfl | (simp only [Term.eta])

theorem eqServer_t (a b : Server) (h : Server.cost a < 9223372036854775807) : laws_eqServer_T a b = some (decide (a = b)) := by
  have hcost : Server.cost a = a.host.size + (a.cert.cost + (a.share.cost + (a.got.length))) := by unfold Server.cost; first | rfl | omega
  refine laws_eqServer_of 0 a b ?_
  unfold laws_eqServer_R
  have e0 := eqTerm_t a.cert (by omega) b.cert
  have e1 := eqTerm_t a.share (by omega) b.share
  have e2 := eqIntS_of a.got b.got (by omega)
  simp only [e0, e1, e2, qb_s, br_if, not_beq_bytes, bne_int]
  clear e0 e1 e2 hcost h
  obtain ⟨a0, a1, a2, a3, a4, a5, a6, a7, a8, a9⟩ := a
  obtain ⟨b0, b1, b2, b3, b4, b5, b6, b7, b8, b9⟩ := b
  simp only [Server.mk.injEq]
  by_cases c0 : a0 = b0
  case neg => simp [c0]
  by_cases c1 : a1 = b1
  case neg => simp [c0, c1]
  by_cases c2 : a2 = b2
  case neg => simp [c0, c1, c2]
  by_cases c3 : a3 = b3
  case neg => simp [c0, c1, c2, c3]
  by_cases c4 : a4 = b4
  case neg => simp [c0, c1, c2, c3, c4]
  by_cases c5 : a5 = b5
  case neg => simp [c0, c1, c2, c3, c4, c5]
  by_cases c6 : a6 = b6
  case neg => simp [c0, c1, c2, c3, c4, c5, c6]
  by_cases c7 : a7 = b7
  case neg => simp [c0, c1, c2, c3, c4, c5, c6, c7]
  by_cases c8 : a8 = b8
  case neg => simp [c0, c1, c2, c3, c4, c5, c6, c7, c8]
  by_cases c9 : a9 = b9
  case neg => simp [c0, c1, c2, c3, c4, c5, c6, c7, c8, c9]
  simp [c0, c1, c2, c3, c4, c5, c6, c7, c8, c9]

theorem szServer_t (a : Server) (hb : ∃ n, ∀ f ∈ Server.cells a, BdF n f) (left : Int) (h0 : 0 ≤ left) (h1 : left ≤ 1048576) : laws_szServer_T a left = some (vLeft (Server.cost a) left) := by
  have hcost : Server.cost a = a.host.size + (a.cert.cost + (a.share.cost + (a.got.length))) := by unfold Server.cost; first | rfl | omega
  have hmax : maxLen = 9223372036854775807 := rfl
  refine laws_szServer_of 0 a left ?_
  unfold laws_szServer_R
  rw [hcost]
  have b0 := bd_str (bd_of hb (f := .str a.host) (by simp [Server.cells]))
  rw [wrap_id (by omega) (by omega)]
  by_cases g0 : (a.host.size : Int) ≤ left
  case neg => rw [show decide (left - (a.host.size : Int) < 0) = true by simp; omega, br_t, vLeft_no g0]
  rw [show decide (left - (a.host.size : Int) < 0) = false by simp; omega, br_f, vLeft_add g0]
  have b1 : a.cert.Bd := by
    obtain ⟨n, hb⟩ := hb
    exact Term.Bd.of (n := n) fun f hf => hb f (by simp only [Term.cells, List.mem_cons, List.not_mem_nil, or_false] at hf; rcases hf with rfl | rfl | rfl | rfl <;> simp [Server.cells])
  rw [szTerm_t a.cert b1 (left - ((a.host.size : Nat) : Int)) (by omega) (by omega), qb_s, vLeft_ge (by omega)]
  by_cases g1 : ((a.cert.cost : Nat) : Int) ≤ left - ((a.host.size : Nat) : Int)
  case neg => rw [decide_eq_false g1, vLeft_no g1]; rfl
  rw [decide_eq_true g1, vLeft_yes g1, vLeft_add g1, Bool.not_true, br_f]
  have b2 : a.share.Bd := by
    obtain ⟨n, hb⟩ := hb
    exact Term.Bd.of (n := n) fun f hf => hb f (by simp only [Term.cells, List.mem_cons, List.not_mem_nil, or_false] at hf; rcases hf with rfl | rfl | rfl | rfl <;> simp [Server.cells])
  rw [szTerm_t a.share b2 (left - ((a.host.size : Nat) : Int) - ((a.cert.cost : Nat) : Int)) (by omega) (by omega), qb_s, vLeft_ge (by omega)]
  by_cases g2 : ((a.share.cost : Nat) : Int) ≤ left - ((a.host.size : Nat) : Int) - ((a.cert.cost : Nat) : Int)
  case neg => rw [decide_eq_false g2, vLeft_no g2]; rfl
  rw [decide_eq_true g2, vLeft_yes g2, vLeft_add g2, Bool.not_true, br_f]
  have b3 := (bd_sl (bd_of hb (f := .sl false .int a.got) (by simp [Server.cells]))).1
  rw [szIntS_t a.got (left - ((a.host.size : Nat) : Int) - ((a.cert.cost : Nat) : Int) - ((a.share.cost : Nat) : Int)) (by omega) (by omega) b3, qb_s, vLeft_ge (by omega)]
  by_cases g3 : ((a.got.length : Nat) : Int) ≤ left - ((a.host.size : Nat) : Int) - ((a.cert.cost : Nat) : Int) - ((a.share.cost : Nat) : Int)
  case neg => rw [decide_eq_false g3, vLeft_not g3]; rfl
  rw [decide_eq_true g3, vLeft_yes g3]; rfl

theorem toCall_t (a : CallD) (h : CallD.cost a ≤ 1000000000) : laws_toCall_T a = some a := by
  have hcost : CallD.cost a = a.client.cost := by unfold CallD.cost; first | rfl | omega
  refine laws_toCall_of 0 a ?_
  unfold laws_toCall_R
  rw [toClient_t a.client (by omega), qb_s]
  all_goals first | rfl | (simp only [Term.eta])

theorem eqCall_t (a b : CallD) (h : CallD.cost a < 9223372036854775807) : laws_eqCall_T a b = some (decide (a = b)) := by
  have hcost : CallD.cost a = a.client.cost := by unfold CallD.cost; first | rfl | omega
  refine laws_eqCall_of 0 a b ?_
  unfold laws_eqCall_R
  have e0 := eqClient_t a.client b.client (by omega)
  simp only [e0, qb_s, br_if, not_beq_bytes, bne_int]
  clear e0 hcost h
  obtain ⟨a0, a1, a2⟩ := a
  obtain ⟨b0, b1, b2⟩ := b
  simp only [CallD.mk.injEq]
  by_cases c0 : a0 = b0
  case neg => simp [c0]
  by_cases c1 : a1 = b1
  case neg => simp [c0, c1]
  by_cases c2 : a2 = b2
  case neg => simp [c0, c1, c2]
  simp [c0, c1, c2]

theorem szCall_t (a : CallD) (hb : ∃ n, ∀ f ∈ CallD.cells a, BdF n f) (left : Int) (h0 : 0 ≤ left) (h1 : left ≤ 1048576) : laws_szCall_T a left = some (vLeft (CallD.cost a) left) := by
  have hcost : CallD.cost a = a.client.cost := by unfold CallD.cost; first | rfl | omega
  have hmax : maxLen = 9223372036854775807 := rfl
  refine laws_szCall_of 0 a left ?_
  unfold laws_szCall_R
  rw [hcost]
  have b0 : ∃ n, ∀ f ∈ Client.cells a.client, BdF n f := by
    obtain ⟨n, hb⟩ := hb
    exact ⟨n, fun f hf => hb f (by simp only [Client.cells, List.mem_cons, List.not_mem_nil, or_false] at hf; rcases hf with rfl | rfl | rfl | rfl | rfl | rfl | rfl | rfl | rfl | rfl | rfl | rfl | rfl <;> simp [CallD.cells])⟩
  rw [szClient_t a.client b0 (left) (by omega) (by omega), qb_s, vLeft_ge (by omega)]
  by_cases g0 : ((a.client.cost : Nat) : Int) ≤ left
  case neg => rw [decide_eq_false g0, vLeft_not g0]; rfl
  rw [decide_eq_true g0, vLeft_yes g0]; rfl

theorem toTalk_t (a : Talk) (h : Talk.cost a ≤ 1000000000) : laws_toTalk_T a = some a := by
  have hcost : Talk.cost a = a.server.cost := by unfold Talk.cost; first | rfl | omega
  refine laws_toTalk_of 0 a ?_
  unfold laws_toTalk_R
  rw [toServer_t a.server (by omega), qb_s]
  all_goals first | rfl | (simp only [Term.eta])

theorem eqTalk_t (a b : Talk) (h : Talk.cost a < 9223372036854775807) : laws_eqTalk_T a b = some (decide (a = b)) := by
  have hcost : Talk.cost a = a.server.cost := by unfold Talk.cost; first | rfl | omega
  refine laws_eqTalk_of 0 a b ?_
  unfold laws_eqTalk_R
  have e0 := eqServer_t a.server b.server (by omega)
  simp only [e0, qb_s, br_if, not_beq_bytes, bne_int]
  clear e0 hcost h
  obtain ⟨a0, a1⟩ := a
  obtain ⟨b0, b1⟩ := b
  simp only [Talk.mk.injEq]
  by_cases c0 : a0 = b0
  case neg => simp [c0]
  by_cases c1 : a1 = b1
  case neg => simp [c0, c1]
  simp [c0, c1]

theorem szTalk_t (a : Talk) (hb : ∃ n, ∀ f ∈ Talk.cells a, BdF n f) (left : Int) (h0 : 0 ≤ left) (h1 : left ≤ 1048576) : laws_szTalk_T a left = some (vLeft (Talk.cost a) left) := by
  have hcost : Talk.cost a = a.server.cost := by unfold Talk.cost; first | rfl | omega
  have hmax : maxLen = 9223372036854775807 := rfl
  refine laws_szTalk_of 0 a left ?_
  unfold laws_szTalk_R
  rw [hcost]
  have b0 : ∃ n, ∀ f ∈ Server.cells a.server, BdF n f := by
    obtain ⟨n, hb⟩ := hb
    exact ⟨n, fun f hf => hb f (by simp only [Server.cells, List.mem_cons, List.not_mem_nil, or_false] at hf; rcases hf with rfl | rfl | rfl | rfl | rfl | rfl | rfl | rfl | rfl | rfl | rfl | rfl | rfl | rfl | rfl | rfl <;> simp [Talk.cells])⟩
  rw [szServer_t a.server b0 (left) (by omega) (by omega), qb_s, vLeft_ge (by omega)]
  by_cases g0 : ((a.server.cost : Nat) : Int) ≤ left
  case neg => rw [decide_eq_false g0, vLeft_not g0]; rfl
  rw [decide_eq_true g0, vLeft_yes g0]; rfl


theorem eqPolicyS_of (a b : List Policy) (ha : a.length < 9223372036854775807) (ih : ∀ x ∈ a, ∀ y, laws_eqPolicy_T x y = some (decide (x = y))) : laws_eqPolicyS_T a b = some (decide (a = b)) := by
  refine laws_eqPolicyS_of (a.length + 1) a b ?_
  unfold laws_eqPolicyS_R
  by_cases hl : a.length = b.length
  · rw [show ((a.length : Int) != (b.length : Int)) = false by simp [hl], br_f]
    refine (qb_run (laws_eqPolicyS_L4_if (lp_eq' a b hl (fun i => laws_eqPolicyS_S4 false a false b false i) (.ext 0, laws_eqPolicyS_O4 false) (.ret, laws_eqPolicyS_O4 false) (by rw [laws_eqPolicyS_round4, lt_self]; rfl) rfl rfl
      (fun i x y hx hy hi => by
        rw [laws_eqPolicyS_round4, lt_t hi, idx_nat hx, idx_nat hy]
        simp only [br_t, qb_s, ih x (List.mem_of_getElem? hx) y]
        rw [wrap_succ (by omega)]
        by_cases he : x = y <;> simp [he, br_t, br_f]) (a.length + 1) (by omega)))).trans ?_
    by_cases hab : a = b <;> simp [hab, isRetE_r, isRetE_e, isExt_e, br_t, br_f]
  · rw [show ((a.length : Int) != (b.length : Int)) = true by simp; omega, br_t]
    simp [len_ne hl]

theorem toPolicyS_of (a : List Policy) (ha : a.length ≤ 1000000000) (ih : ∀ x ∈ a, laws_toPolicy_T x = some x) : laws_toPolicyS_T a = some a := by
  refine laws_toPolicyS_of (a.length + 1) a ?_
  unfold laws_toPolicyS_R
  rw [show (decide ((a.length : Int) = (a.length : Int)) && decide (0 ≤ (a.length : Int)) && ((a.length : Int)).toNat.ble appMax) = true by simp [appMax]; omega, br_t, show ((a.length : Int)).toNat = a.length by omega]
  refine (qb_run (laws_toPolicyS_L3_of (lp_copy a (zeroEl .policy) (fun i l => laws_toPolicyS_S3 false a l i) (fun l => laws_toPolicyS_O3 l) (fun _ _ => by rw [laws_toPolicyS_round3, lt_self]; rfl)
    (fun i x l hx hi hinv => by
      obtain ⟨y, hy⟩ : ∃ y, l[i]? = some y := ⟨l[i]'(by omega), by simp⟩
      rw [laws_toPolicyS_round3, lt_t hi, idx_nat hx]
      simp only [br_t, qb_s, ih x (List.mem_of_getElem? hx), idx_nat hy]
      rw [show ((i : Int)).toNat = i by omega, hy, wrap_succ (by omega)]
      simp only [qb_s, Term.eta]) (a.length + 1) (by omega)))).trans ?_
  rfl

theorem szPolicyS_of (a : List Policy) (left : Int) (h0 : 0 ≤ left) (h1 : left ≤ 1048576) (ha : a.length ≤ 9223372036854775807) (ih : ∀ x ∈ a, ∀ left : Int, 0 ≤ left → left ≤ 1048576 → laws_szPolicy_T x left = some (vLeft (Policy.cost x) left)) :
    laws_szPolicyS_T a left = some (vLeft (a.length + sumC Policy.cost a) left) := by
  refine laws_szPolicyS_of (a.length + 1) a left ?_
  unfold laws_szPolicyS_R
  rw [wrap_id (by omega) (by omega)]
  by_cases hl : (a.length : Int) ≤ left
  · rw [show decide (left - (a.length : Int) < 0) = false by simp; omega, br_f]
    have hloop := lp_sz (P := Tryz.prog) (cfg := cfg) (T := RN) (n := a.length + 1) (d := 5) (f := 54) (r := 5) (na := 0) a Policy.cost (fun i left => laws_szPolicyS_S5 false a left 0 i) (fun left => laws_szPolicyS_O5 left 0) (fun m => laws_szPolicyS_O5 m (-1))
      (fun _ _ _ => by rw [laws_szPolicyS_round5, lt_self]; rfl)
      (fun i x left hx hi h0 h1 => by
        have h := ih x (List.mem_of_getElem? hx) left h0 h1
        rw [laws_szPolicyS_round5, lt_t hi, idx_nat hx]
        simp only [br_t, qb_s, h]
        refine ⟨fun he => ?_, fun he => ⟨-1, ?_⟩⟩
        · rw [vLeft_yes he, show decide (left - ((Policy.cost x : Nat) : Int) < 0) = false by simp; omega, wrap_succ (by omega)]
          rfl
        · rw [vLeft_not he]
          rfl)
      (left - a.length) (a.length + 1) (by omega) (by omega) (by omega)
    by_cases hc : ((sumC Policy.cost a : Nat) : Int) ≤ left - a.length
    · refine (qb_run (laws_szPolicyS_L5_of (hloop.1 hc))).trans ?_
      rw [vLeft_yes (by omega)]
      simp only [isRetE_e, isExt_e, br_t, br_f]
      exact some_congr (by omega)
    · obtain ⟨m, hm⟩ := hloop.2 hc
      refine (qb_run (laws_szPolicyS_L5_of hm)).trans ?_
      rw [vLeft_not (by omega)]
      rfl
  · rw [show decide (left - (a.length : Int) < 0) = true by simp; omega, vLeft_not (by omega)]
    rfl

theorem eqHostS_of (a b : List Host) (ha : a.length < 9223372036854775807) (ih : ∀ x ∈ a, ∀ y, laws_eqHost_T x y = some (decide (x = y))) : laws_eqHostS_T a b = some (decide (a = b)) := by
  refine laws_eqHostS_of (a.length + 1) a b ?_
  unfold laws_eqHostS_R
  by_cases hl : a.length = b.length
  · rw [show ((a.length : Int) != (b.length : Int)) = false by simp [hl], br_f]
    refine (qb_run (laws_eqHostS_L4_if (lp_eq' a b hl (fun i => laws_eqHostS_S4 false a false b false i) (.ext 0, laws_eqHostS_O4 false) (.ret, laws_eqHostS_O4 false) (by rw [laws_eqHostS_round4, lt_self]; rfl) rfl rfl
      (fun i x y hx hy hi => by
        rw [laws_eqHostS_round4, lt_t hi, idx_nat hx, idx_nat hy]
        simp only [br_t, qb_s, ih x (List.mem_of_getElem? hx) y]
        rw [wrap_succ (by omega)]
        by_cases he : x = y <;> simp [he, br_t, br_f]) (a.length + 1) (by omega)))).trans ?_
    by_cases hab : a = b <;> simp [hab, isRetE_r, isRetE_e, isExt_e, br_t, br_f]
  · rw [show ((a.length : Int) != (b.length : Int)) = true by simp; omega, br_t]
    simp [len_ne hl]

theorem toHostS_of (a : List Host) (ha : a.length ≤ 1000000000) (ih : ∀ x ∈ a, laws_toHost_T x = some x) : laws_toHostS_T a = some a := by
  refine laws_toHostS_of (a.length + 1) a ?_
  unfold laws_toHostS_R
  rw [show (decide ((a.length : Int) = (a.length : Int)) && decide (0 ≤ (a.length : Int)) && ((a.length : Int)).toNat.ble appMax) = true by simp [appMax]; omega, br_t, show ((a.length : Int)).toNat = a.length by omega]
  refine (qb_run (laws_toHostS_L3_of (lp_copy a (zeroEl .host) (fun i l => laws_toHostS_S3 false a l i) (fun l => laws_toHostS_O3 l) (fun _ _ => by rw [laws_toHostS_round3, lt_self]; rfl)
    (fun i x l hx hi hinv => by
      obtain ⟨y, hy⟩ : ∃ y, l[i]? = some y := ⟨l[i]'(by omega), by simp⟩
      rw [laws_toHostS_round3, lt_t hi, idx_nat hx]
      simp only [br_t, qb_s, ih x (List.mem_of_getElem? hx), idx_nat hy]
      rw [show ((i : Int)).toNat = i by omega, hy, wrap_succ (by omega)]
      simp only [qb_s, Term.eta]) (a.length + 1) (by omega)))).trans ?_
  rfl

theorem szHostS_of (a : List Host) (left : Int) (h0 : 0 ≤ left) (h1 : left ≤ 1048576) (ha : a.length ≤ 9223372036854775807) (ih : ∀ x ∈ a, ∀ left : Int, 0 ≤ left → left ≤ 1048576 → laws_szHost_T x left = some (vLeft (Host.cost x) left)) :
    laws_szHostS_T a left = some (vLeft (a.length + sumC Host.cost a) left) := by
  refine laws_szHostS_of (a.length + 1) a left ?_
  unfold laws_szHostS_R
  rw [wrap_id (by omega) (by omega)]
  by_cases hl : (a.length : Int) ≤ left
  · rw [show decide (left - (a.length : Int) < 0) = false by simp; omega, br_f]
    have hloop := lp_sz (P := Tryz.prog) (cfg := cfg) (T := RN) (n := a.length + 1) (d := 5) (f := 55) (r := 5) (na := 0) a Host.cost (fun i left => laws_szHostS_S5 false a left 0 i) (fun left => laws_szHostS_O5 left 0) (fun m => laws_szHostS_O5 m (-1))
      (fun _ _ _ => by rw [laws_szHostS_round5, lt_self]; rfl)
      (fun i x left hx hi h0 h1 => by
        have h := ih x (List.mem_of_getElem? hx) left h0 h1
        rw [laws_szHostS_round5, lt_t hi, idx_nat hx]
        simp only [br_t, qb_s, h]
        refine ⟨fun he => ?_, fun he => ⟨-1, ?_⟩⟩
        · rw [vLeft_yes he, show decide (left - ((Host.cost x : Nat) : Int) < 0) = false by simp; omega, wrap_succ (by omega)]
          rfl
        · rw [vLeft_not he]
          rfl)
      (left - a.length) (a.length + 1) (by omega) (by omega) (by omega)
    by_cases hc : ((sumC Host.cost a : Nat) : Int) ≤ left - a.length
    · refine (qb_run (laws_szHostS_L5_of (hloop.1 hc))).trans ?_
      rw [vLeft_yes (by omega)]
      simp only [isRetE_e, isExt_e, br_t, br_f]
      exact some_congr (by omega)
    · obtain ⟨m, hm⟩ := hloop.2 hc
      refine (qb_run (laws_szHostS_L5_of hm)).trans ?_
      rw [vLeft_not (by omega)]
      rfl
  · rw [show decide (left - (a.length : Int) < 0) = true by simp; omega, vLeft_not (by omega)]
    rfl

theorem eqLetterS_of (a b : List Letter) (ha : a.length < 9223372036854775807) (ih : ∀ x ∈ a, ∀ y, laws_eqLetter_T x y = some (decide (x = y))) : laws_eqLetterS_T a b = some (decide (a = b)) := by
  refine laws_eqLetterS_of (a.length + 1) a b ?_
  unfold laws_eqLetterS_R
  by_cases hl : a.length = b.length
  · rw [show ((a.length : Int) != (b.length : Int)) = false by simp [hl], br_f]
    refine (qb_run (laws_eqLetterS_L4_if (lp_eq' a b hl (fun i => laws_eqLetterS_S4 false a false b false i) (.ext 0, laws_eqLetterS_O4 false) (.ret, laws_eqLetterS_O4 false) (by rw [laws_eqLetterS_round4, lt_self]; rfl) rfl rfl
      (fun i x y hx hy hi => by
        rw [laws_eqLetterS_round4, lt_t hi, idx_nat hx, idx_nat hy]
        simp only [br_t, qb_s, ih x (List.mem_of_getElem? hx) y]
        rw [wrap_succ (by omega)]
        by_cases he : x = y <;> simp [he, br_t, br_f]) (a.length + 1) (by omega)))).trans ?_
    by_cases hab : a = b <;> simp [hab, isRetE_r, isRetE_e, isExt_e, br_t, br_f]
  · rw [show ((a.length : Int) != (b.length : Int)) = true by simp; omega, br_t]
    simp [len_ne hl]

theorem toLetterS_of (a : List Letter) (ha : a.length ≤ 1000000000) (ih : ∀ x ∈ a, laws_toLetter_T x = some x) : laws_toLetterS_T a = some a := by
  refine laws_toLetterS_of (a.length + 1) a ?_
  unfold laws_toLetterS_R
  rw [show (decide ((a.length : Int) = (a.length : Int)) && decide (0 ≤ (a.length : Int)) && ((a.length : Int)).toNat.ble appMax) = true by simp [appMax]; omega, br_t, show ((a.length : Int)).toNat = a.length by omega]
  refine (qb_run (laws_toLetterS_L3_of (lp_copy a (zeroEl .letter) (fun i l => laws_toLetterS_S3 false a l i) (fun l => laws_toLetterS_O3 l) (fun _ _ => by rw [laws_toLetterS_round3, lt_self]; rfl)
    (fun i x l hx hi hinv => by
      obtain ⟨y, hy⟩ : ∃ y, l[i]? = some y := ⟨l[i]'(by omega), by simp⟩
      rw [laws_toLetterS_round3, lt_t hi, idx_nat hx]
      simp only [br_t, qb_s, ih x (List.mem_of_getElem? hx), idx_nat hy]
      rw [show ((i : Int)).toNat = i by omega, hy, wrap_succ (by omega)]
      simp only [qb_s, Term.eta]) (a.length + 1) (by omega)))).trans ?_
  rfl

theorem szLetterS_of (a : List Letter) (left : Int) (h0 : 0 ≤ left) (h1 : left ≤ 1048576) (ha : a.length ≤ 9223372036854775807) (ih : ∀ x ∈ a, ∀ left : Int, 0 ≤ left → left ≤ 1048576 → laws_szLetter_T x left = some (vLeft (Letter.cost x) left)) :
    laws_szLetterS_T a left = some (vLeft (a.length + sumC Letter.cost a) left) := by
  refine laws_szLetterS_of (a.length + 1) a left ?_
  unfold laws_szLetterS_R
  rw [wrap_id (by omega) (by omega)]
  by_cases hl : (a.length : Int) ≤ left
  · rw [show decide (left - (a.length : Int) < 0) = false by simp; omega, br_f]
    have hloop := lp_sz (P := Tryz.prog) (cfg := cfg) (T := RN) (n := a.length + 1) (d := 5) (f := 56) (r := 5) (na := 0) a Letter.cost (fun i left => laws_szLetterS_S5 false a left 0 i) (fun left => laws_szLetterS_O5 left 0) (fun m => laws_szLetterS_O5 m (-1))
      (fun _ _ _ => by rw [laws_szLetterS_round5, lt_self]; rfl)
      (fun i x left hx hi h0 h1 => by
        have h := ih x (List.mem_of_getElem? hx) left h0 h1
        rw [laws_szLetterS_round5, lt_t hi, idx_nat hx]
        simp only [br_t, qb_s, h]
        refine ⟨fun he => ?_, fun he => ⟨-1, ?_⟩⟩
        · rw [vLeft_yes he, show decide (left - ((Letter.cost x : Nat) : Int) < 0) = false by simp; omega, wrap_succ (by omega)]
          rfl
        · rw [vLeft_not he]
          rfl)
      (left - a.length) (a.length + 1) (by omega) (by omega) (by omega)
    by_cases hc : ((sumC Letter.cost a : Nat) : Int) ≤ left - a.length
    · refine (qb_run (laws_szLetterS_L5_of (hloop.1 hc))).trans ?_
      rw [vLeft_yes (by omega)]
      simp only [isRetE_e, isExt_e, br_t, br_f]
      exact some_congr (by omega)
    · obtain ⟨m, hm⟩ := hloop.2 hc
      refine (qb_run (laws_szLetterS_L5_of hm)).trans ?_
      rw [vLeft_not (by omega)]
      rfl
  · rw [show decide (left - (a.length : Int) < 0) = true by simp; omega, vLeft_not (by omega)]
    rfl


theorem eqCallS_of (a b : List CallD) (ha : a.length < 9223372036854775807) (ih : ∀ x ∈ a, ∀ y, laws_eqCall_T x y = some (decide (x = y))) : laws_eqCallS_T a b = some (decide (a = b)) := by
  refine laws_eqCallS_of (a.length + 1) a b ?_
  unfold laws_eqCallS_R
  by_cases hl : a.length = b.length
  · rw [show ((a.length : Int) != (b.length : Int)) = false by simp [hl], br_f]
    refine (qb_run (laws_eqCallS_L4_if (lp_eq' a b hl (fun i => laws_eqCallS_S4 false a false b false i) (.ext 0, laws_eqCallS_O4 false) (.ret, laws_eqCallS_O4 false) (by rw [laws_eqCallS_round4, lt_self]; rfl) rfl rfl
      (fun i x y hx hy hi => by
        rw [laws_eqCallS_round4, lt_t hi, idx_nat hx, idx_nat hy]
        simp only [br_t, qb_s, ih x (List.mem_of_getElem? hx) y]
        rw [wrap_succ (by omega)]
        by_cases he : x = y <;> simp [he, br_t, br_f]) (a.length + 1) (by omega)))).trans ?_
    by_cases hab : a = b <;> simp [hab, isRetE_r, isRetE_e, isExt_e, br_t, br_f]
  · rw [show ((a.length : Int) != (b.length : Int)) = true by simp; omega, br_t]
    simp [len_ne hl]

theorem toCallS_of (a : List CallD) (ha : a.length ≤ 1000000000) (ih : ∀ x ∈ a, laws_toCall_T x = some x) : laws_toCallS_T a = some a := by
  refine laws_toCallS_of (a.length + 1) a ?_
  unfold laws_toCallS_R
  rw [show (decide ((a.length : Int) = (a.length : Int)) && decide (0 ≤ (a.length : Int)) && ((a.length : Int)).toNat.ble appMax) = true by simp [appMax]; omega, br_t, show ((a.length : Int)).toNat = a.length by omega]
  refine (qb_run (laws_toCallS_L3_of (lp_copy a (zeroEl .call) (fun i l => laws_toCallS_S3 false a l i) (fun l => laws_toCallS_O3 l) (fun _ _ => by rw [laws_toCallS_round3, lt_self]; rfl)
    (fun i x l hx hi hinv => by
      obtain ⟨y, hy⟩ : ∃ y, l[i]? = some y := ⟨l[i]'(by omega), by simp⟩
      rw [laws_toCallS_round3, lt_t hi, idx_nat hx]
      simp only [br_t, qb_s, ih x (List.mem_of_getElem? hx), idx_nat hy]
      rw [show ((i : Int)).toNat = i by omega, hy, wrap_succ (by omega)]
      simp only [qb_s, Term.eta]) (a.length + 1) (by omega)))).trans ?_
  rfl

theorem szCallS_of (a : List CallD) (left : Int) (h0 : 0 ≤ left) (h1 : left ≤ 1048576) (ha : a.length ≤ 9223372036854775807) (ih : ∀ x ∈ a, ∀ left : Int, 0 ≤ left → left ≤ 1048576 → laws_szCall_T x left = some (vLeft (CallD.cost x) left)) :
    laws_szCallS_T a left = some (vLeft (a.length + sumC CallD.cost a) left) := by
  refine laws_szCallS_of (a.length + 1) a left ?_
  unfold laws_szCallS_R
  rw [wrap_id (by omega) (by omega)]
  by_cases hl : (a.length : Int) ≤ left
  · rw [show decide (left - (a.length : Int) < 0) = false by simp; omega, br_f]
    have hloop := lp_sz (P := Tryz.prog) (cfg := cfg) (T := RN) (n := a.length + 1) (d := 5) (f := 57) (r := 5) (na := 0) a CallD.cost (fun i left => laws_szCallS_S5 false a left 0 i) (fun left => laws_szCallS_O5 left 0) (fun m => laws_szCallS_O5 m (-1))
      (fun _ _ _ => by rw [laws_szCallS_round5, lt_self]; rfl)
      (fun i x left hx hi h0 h1 => by
        have h := ih x (List.mem_of_getElem? hx) left h0 h1
        rw [laws_szCallS_round5, lt_t hi, idx_nat hx]
        simp only [br_t, qb_s, h]
        refine ⟨fun he => ?_, fun he => ⟨-1, ?_⟩⟩
        · rw [vLeft_yes he, show decide (left - ((CallD.cost x : Nat) : Int) < 0) = false by simp; omega, wrap_succ (by omega)]
          rfl
        · rw [vLeft_not he]
          rfl)
      (left - a.length) (a.length + 1) (by omega) (by omega) (by omega)
    by_cases hc : ((sumC CallD.cost a : Nat) : Int) ≤ left - a.length
    · refine (qb_run (laws_szCallS_L5_of (hloop.1 hc))).trans ?_
      rw [vLeft_yes (by omega)]
      simp only [isRetE_e, isExt_e, br_t, br_f]
      exact some_congr (by omega)
    · obtain ⟨m, hm⟩ := hloop.2 hc
      refine (qb_run (laws_szCallS_L5_of hm)).trans ?_
      rw [vLeft_not (by omega)]
      rfl
  · rw [show decide (left - (a.length : Int) < 0) = true by simp; omega, vLeft_not (by omega)]
    rfl

theorem eqTalkS_of (a b : List Talk) (ha : a.length < 9223372036854775807) (ih : ∀ x ∈ a, ∀ y, laws_eqTalk_T x y = some (decide (x = y))) : laws_eqTalkS_T a b = some (decide (a = b)) := by
  refine laws_eqTalkS_of (a.length + 1) a b ?_
  unfold laws_eqTalkS_R
  by_cases hl : a.length = b.length
  · rw [show ((a.length : Int) != (b.length : Int)) = false by simp [hl], br_f]
    refine (qb_run (laws_eqTalkS_L4_if (lp_eq' a b hl (fun i => laws_eqTalkS_S4 false a false b false i) (.ext 0, laws_eqTalkS_O4 false) (.ret, laws_eqTalkS_O4 false) (by rw [laws_eqTalkS_round4, lt_self]; rfl) rfl rfl
      (fun i x y hx hy hi => by
        rw [laws_eqTalkS_round4, lt_t hi, idx_nat hx, idx_nat hy]
        simp only [br_t, qb_s, ih x (List.mem_of_getElem? hx) y]
        rw [wrap_succ (by omega)]
        by_cases he : x = y <;> simp [he, br_t, br_f]) (a.length + 1) (by omega)))).trans ?_
    by_cases hab : a = b <;> simp [hab, isRetE_r, isRetE_e, isExt_e, br_t, br_f]
  · rw [show ((a.length : Int) != (b.length : Int)) = true by simp; omega, br_t]
    simp [len_ne hl]

theorem toTalkS_of (a : List Talk) (ha : a.length ≤ 1000000000) (ih : ∀ x ∈ a, laws_toTalk_T x = some x) : laws_toTalkS_T a = some a := by
  refine laws_toTalkS_of (a.length + 1) a ?_
  unfold laws_toTalkS_R
  rw [show (decide ((a.length : Int) = (a.length : Int)) && decide (0 ≤ (a.length : Int)) && ((a.length : Int)).toNat.ble appMax) = true by simp [appMax]; omega, br_t, show ((a.length : Int)).toNat = a.length by omega]
  refine (qb_run (laws_toTalkS_L3_of (lp_copy a (zeroEl .talk) (fun i l => laws_toTalkS_S3 false a l i) (fun l => laws_toTalkS_O3 l) (fun _ _ => by rw [laws_toTalkS_round3, lt_self]; rfl)
    (fun i x l hx hi hinv => by
      obtain ⟨y, hy⟩ : ∃ y, l[i]? = some y := ⟨l[i]'(by omega), by simp⟩
      rw [laws_toTalkS_round3, lt_t hi, idx_nat hx]
      simp only [br_t, qb_s, ih x (List.mem_of_getElem? hx), idx_nat hy]
      rw [show ((i : Int)).toNat = i by omega, hy, wrap_succ (by omega)]
      simp only [qb_s, Term.eta]) (a.length + 1) (by omega)))).trans ?_
  rfl

theorem szTalkS_of (a : List Talk) (left : Int) (h0 : 0 ≤ left) (h1 : left ≤ 1048576) (ha : a.length ≤ 9223372036854775807) (ih : ∀ x ∈ a, ∀ left : Int, 0 ≤ left → left ≤ 1048576 → laws_szTalk_T x left = some (vLeft (Talk.cost x) left)) :
    laws_szTalkS_T a left = some (vLeft (a.length + sumC Talk.cost a) left) := by
  refine laws_szTalkS_of (a.length + 1) a left ?_
  unfold laws_szTalkS_R
  rw [wrap_id (by omega) (by omega)]
  by_cases hl : (a.length : Int) ≤ left
  · rw [show decide (left - (a.length : Int) < 0) = false by simp; omega, br_f]
    have hloop := lp_sz (P := Tryz.prog) (cfg := cfg) (T := RN) (n := a.length + 1) (d := 5) (f := 58) (r := 5) (na := 0) a Talk.cost (fun i left => laws_szTalkS_S5 false a left 0 i) (fun left => laws_szTalkS_O5 left 0) (fun m => laws_szTalkS_O5 m (-1))
      (fun _ _ _ => by rw [laws_szTalkS_round5, lt_self]; rfl)
      (fun i x left hx hi h0 h1 => by
        have h := ih x (List.mem_of_getElem? hx) left h0 h1
        rw [laws_szTalkS_round5, lt_t hi, idx_nat hx]
        simp only [br_t, qb_s, h]
        refine ⟨fun he => ?_, fun he => ⟨-1, ?_⟩⟩
        · rw [vLeft_yes he, show decide (left - ((Talk.cost x : Nat) : Int) < 0) = false by simp; omega, wrap_succ (by omega)]
          rfl
        · rw [vLeft_not he]
          rfl)
      (left - a.length) (a.length + 1) (by omega) (by omega) (by omega)
    by_cases hc : ((sumC Talk.cost a : Nat) : Int) ≤ left - a.length
    · refine (qb_run (laws_szTalkS_L5_of (hloop.1 hc))).trans ?_
      rw [vLeft_yes (by omega)]
      simp only [isRetE_e, isExt_e, br_t, br_f]
      exact some_congr (by omega)
    · obtain ⟨m, hm⟩ := hloop.2 hc
      refine (qb_run (laws_szTalkS_L5_of hm)).trans ?_
      rw [vLeft_not (by omega)]
      rfl
  · rw [show decide (left - (a.length : Int) < 0) = true by simp; omega, vLeft_not (by omega)]
    rfl




theorem toWorld_t (a : WorldD) (h : WorldD.cost a ≤ 1000000000) : laws_toWorld_T a = some a := by
  have hcost : WorldD.cost a = Term.costs a.known + ((a.cache.length + sumC Policy.cost a.cache) + ((a.hosts.length + sumC Host.cost a.hosts) + ((a.letters.length + sumC Letter.cost a.letters) + (a.book.size + ((a.calls.length + sumC CallD.cost a.calls) + ((a.talks.length + sumC Talk.cost a.talks) + (a.told.length))))))) := by unfold WorldD.cost lsum; first | rfl | omega
  refine laws_toWorld_of 0 a ?_
  unfold laws_toWorld_R
  rw [toTermS_t a.known (by omega), qb_s]
  rw [toPolicyS_of a.cache (by omega) fun x hx => toPolicy_t x (by have := sumC_mem Policy.cost hx; omega), qb_s]
  rw [toHostS_of a.hosts (by omega) fun x hx => toHost_t x (by have := sumC_mem Host.cost hx; omega), qb_s]
  rw [toLetterS_of a.letters (by omega) fun x hx => toLetter_t x (by have := sumC_mem Letter.cost hx; omega), qb_s]
  rw [toCallS_of a.calls (by omega) fun x hx => toCall_t x (by have := sumC_mem CallD.cost hx; omega), qb_s]
  rw [toTalkS_of a.talks (by omega) fun x hx => toTalk_t x (by have := sumC_mem Talk.cost hx; omega), qb_s]
  rw [toIntS_of a.told (by omega), qb_s]
  all_goals first | rfl | (simp only [Term.eta])

theorem eqWorld_t (a b : WorldD) (h : WorldD.cost a < 9223372036854775807) : laws_eqWorld_T a b = some (decide (a = b)) := by
  have hcost : WorldD.cost a = Term.costs a.known + ((a.cache.length + sumC Policy.cost a.cache) + ((a.hosts.length + sumC Host.cost a.hosts) + ((a.letters.length + sumC Letter.cost a.letters) + (a.book.size + ((a.calls.length + sumC CallD.cost a.calls) + ((a.talks.length + sumC Talk.cost a.talks) + (a.told.length))))))) := by unfold WorldD.cost lsum; first | rfl | omega
  refine laws_eqWorld_of 0 a b ?_
  unfold laws_eqWorld_R
  have e0 := eqTermS_t a.known b.known (by omega)
  have e1 := eqPolicyS_of a.cache b.cache (by omega) fun x hx y => eqPolicy_t x y (by have := sumC_mem Policy.cost hx; omega)
  have e2 := eqHostS_of a.hosts b.hosts (by omega) fun x hx y => eqHost_t x y (by have := sumC_mem Host.cost hx; omega)
  have e3 := eqLetterS_of a.letters b.letters (by omega) fun x hx y => eqLetter_t x y (by have := sumC_mem Letter.cost hx; omega)
  have e4 := eqCallS_of a.calls b.calls (by omega) fun x hx y => eqCall_t x y (by have := sumC_mem CallD.cost hx; omega)
  have e5 := eqTalkS_of a.talks b.talks (by omega) fun x hx y => eqTalk_t x y (by have := sumC_mem Talk.cost hx; omega)
  have e6 := eqIntS_of a.told b.told (by omega)
  simp only [e0, e1, e2, e3, e4, e5, e6, qb_s, br_if, not_beq_bytes, bne_int]
  clear e0 e1 e2 e3 e4 e5 e6 hcost h
  obtain ⟨a0, a1, a2, a3, a4, a5, a6, a7, a8, a9, a10⟩ := a
  obtain ⟨b0, b1, b2, b3, b4, b5, b6, b7, b8, b9, b10⟩ := b
  simp only [WorldD.mk.injEq]
  by_cases c0 : a0 = b0
  case neg => simp [c0]
  by_cases c1 : a1 = b1
  case neg => simp [c0, c1]
  by_cases c2 : a2 = b2
  case neg => simp [c0, c1, c2]
  by_cases c3 : a3 = b3
  case neg => simp [c0, c1, c2, c3]
  by_cases c4 : a4 = b4
  case neg => simp [c0, c1, c2, c3, c4]
  by_cases c5 : a5 = b5
  case neg => simp [c0, c1, c2, c3, c4, c5]
  by_cases c6 : a6 = b6
  case neg => simp [c0, c1, c2, c3, c4, c5, c6]
  by_cases c7 : a7 = b7
  case neg => simp [c0, c1, c2, c3, c4, c5, c6, c7]
  by_cases c8 : a8 = b8
  case neg => simp [c0, c1, c2, c3, c4, c5, c6, c7, c8]
  by_cases c9 : a9 = b9
  case neg => simp [c0, c1, c2, c3, c4, c5, c6, c7, c8, c9]
  by_cases c10 : a10 = b10
  case neg => simp [c0, c1, c2, c3, c4, c5, c6, c7, c8, c9, c10]
  simp [c0, c1, c2, c3, c4, c5, c6, c7, c8, c9, c10]

theorem szWorld_t (a : WorldD) (hb : ∃ n, ∀ f ∈ WorldD.cells a, BdF n f) (left : Int) (h0 : 0 ≤ left) (h1 : left ≤ 1048576) : laws_szWorld_T a left = some (vLeft (WorldD.cost a) left) := by
  have hcost : WorldD.cost a = Term.costs a.known + ((a.cache.length + sumC Policy.cost a.cache) + ((a.hosts.length + sumC Host.cost a.hosts) + ((a.letters.length + sumC Letter.cost a.letters) + (a.book.size + ((a.calls.length + sumC CallD.cost a.calls) + ((a.talks.length + sumC Talk.cost a.talks) + (a.told.length))))))) := by unfold WorldD.cost lsum; first | rfl | omega
  have hmax : maxLen = 9223372036854775807 := rfl
  refine laws_szWorld_of 0 a left ?_
  unfold laws_szWorld_R
  rw [hcost]
  obtain ⟨b0, m0, k0⟩ := bd_sl (bd_of hb (f := .sl false .term a.known) (by simp [WorldD.cells]))
  rw [szTermS_t a.known (by omega) (fun x hx => Term.Bd.of (n := m0) (k0 x hx)) (left) (by omega) (by omega), qb_s, vLeft_ge (by omega)]
  by_cases g0 : ((Term.costs a.known : Nat) : Int) ≤ left
  case neg => rw [decide_eq_false g0, vLeft_no g0]; rfl
  rw [decide_eq_true g0, vLeft_yes g0, vLeft_add g0, Bool.not_true, br_f]
  obtain ⟨b1, m1, k1⟩ := bd_sl (bd_of hb (f := .sl false .policy a.cache) (by simp [WorldD.cells]))
  rw [szPolicyS_of a.cache (left - ((Term.costs a.known : Nat) : Int)) (by omega) (by omega) b1 (fun x hx l g0 g1 => szPolicy_t x ⟨m1, k1 x hx⟩ l g0 g1), qb_s, vLeft_ge (by omega)]
  by_cases g1 : (((a.cache.length + sumC Policy.cost a.cache) : Nat) : Int) ≤ left - ((Term.costs a.known : Nat) : Int)
  case neg => rw [decide_eq_false g1, vLeft_no g1]; rfl
  rw [decide_eq_true g1, vLeft_yes g1, vLeft_add g1, Bool.not_true, br_f]
  obtain ⟨b2, m2, k2⟩ := bd_sl (bd_of hb (f := .sl false .host a.hosts) (by simp [WorldD.cells]))
  rw [szHostS_of a.hosts (left - ((Term.costs a.known : Nat) : Int) - (((a.cache.length + sumC Policy.cost a.cache) : Nat) : Int)) (by omega) (by omega) b2 (fun x hx l g0 g1 => szHost_t x ⟨m2, k2 x hx⟩ l g0 g1), qb_s, vLeft_ge (by omega)]
  by_cases g2 : (((a.hosts.length + sumC Host.cost a.hosts) : Nat) : Int) ≤ left - ((Term.costs a.known : Nat) : Int) - (((a.cache.length + sumC Policy.cost a.cache) : Nat) : Int)
  case neg => rw [decide_eq_false g2, vLeft_no g2]; rfl
  rw [decide_eq_true g2, vLeft_yes g2, vLeft_add g2, Bool.not_true, br_f]
  obtain ⟨b3, m3, k3⟩ := bd_sl (bd_of hb (f := .sl false .letter a.letters) (by simp [WorldD.cells]))
  rw [szLetterS_of a.letters (left - ((Term.costs a.known : Nat) : Int) - (((a.cache.length + sumC Policy.cost a.cache) : Nat) : Int) - (((a.hosts.length + sumC Host.cost a.hosts) : Nat) : Int)) (by omega) (by omega) b3 (fun x hx l g0 g1 => szLetter_t x ⟨m3, k3 x hx⟩ l g0 g1), qb_s, vLeft_ge (by omega)]
  by_cases g3 : (((a.letters.length + sumC Letter.cost a.letters) : Nat) : Int) ≤ left - ((Term.costs a.known : Nat) : Int) - (((a.cache.length + sumC Policy.cost a.cache) : Nat) : Int) - (((a.hosts.length + sumC Host.cost a.hosts) : Nat) : Int)
  case neg => rw [decide_eq_false g3, vLeft_no g3]; rfl
  rw [decide_eq_true g3, vLeft_yes g3, vLeft_add g3, Bool.not_true, br_f]
  have b4 := bd_str (bd_of hb (f := .str a.book) (by simp [WorldD.cells]))
  rw [wrap_id (by omega) (by omega)]
  by_cases g4 : (a.book.size : Int) ≤ left - ((Term.costs a.known : Nat) : Int) - (((a.cache.length + sumC Policy.cost a.cache) : Nat) : Int) - (((a.hosts.length + sumC Host.cost a.hosts) : Nat) : Int) - (((a.letters.length + sumC Letter.cost a.letters) : Nat) : Int)
  case neg => rw [show decide (left - ((Term.costs a.known : Nat) : Int) - (((a.cache.length + sumC Policy.cost a.cache) : Nat) : Int) - (((a.hosts.length + sumC Host.cost a.hosts) : Nat) : Int) - (((a.letters.length + sumC Letter.cost a.letters) : Nat) : Int) - (a.book.size : Int) < 0) = true by simp; omega, br_t, vLeft_no g4]
  rw [show decide (left - ((Term.costs a.known : Nat) : Int) - (((a.cache.length + sumC Policy.cost a.cache) : Nat) : Int) - (((a.hosts.length + sumC Host.cost a.hosts) : Nat) : Int) - (((a.letters.length + sumC Letter.cost a.letters) : Nat) : Int) - (a.book.size : Int) < 0) = false by simp; omega, br_f, vLeft_add g4]
  obtain ⟨b5, m5, k5⟩ := bd_sl (bd_of hb (f := .sl false .call a.calls) (by simp [WorldD.cells]))
  rw [szCallS_of a.calls (left - ((Term.costs a.known : Nat) : Int) - (((a.cache.length + sumC Policy.cost a.cache) : Nat) : Int) - (((a.hosts.length + sumC Host.cost a.hosts) : Nat) : Int) - (((a.letters.length + sumC Letter.cost a.letters) : Nat) : Int) - ((a.book.size : Nat) : Int)) (by omega) (by omega) b5 (fun x hx l g0 g1 => szCall_t x ⟨m5, k5 x hx⟩ l g0 g1), qb_s, vLeft_ge (by omega)]
  by_cases g5 : (((a.calls.length + sumC CallD.cost a.calls) : Nat) : Int) ≤ left - ((Term.costs a.known : Nat) : Int) - (((a.cache.length + sumC Policy.cost a.cache) : Nat) : Int) - (((a.hosts.length + sumC Host.cost a.hosts) : Nat) : Int) - (((a.letters.length + sumC Letter.cost a.letters) : Nat) : Int) - ((a.book.size : Nat) : Int)
  case neg => rw [decide_eq_false g5, vLeft_no g5]; rfl
  rw [decide_eq_true g5, vLeft_yes g5, vLeft_add g5, Bool.not_true, br_f]
  obtain ⟨b6, m6, k6⟩ := bd_sl (bd_of hb (f := .sl false .talk a.talks) (by simp [WorldD.cells]))
  rw [szTalkS_of a.talks (left - ((Term.costs a.known : Nat) : Int) - (((a.cache.length + sumC Policy.cost a.cache) : Nat) : Int) - (((a.hosts.length + sumC Host.cost a.hosts) : Nat) : Int) - (((a.letters.length + sumC Letter.cost a.letters) : Nat) : Int) - ((a.book.size : Nat) : Int) - (((a.calls.length + sumC CallD.cost a.calls) : Nat) : Int)) (by omega) (by omega) b6 (fun x hx l g0 g1 => szTalk_t x ⟨m6, k6 x hx⟩ l g0 g1), qb_s, vLeft_ge (by omega)]
  by_cases g6 : (((a.talks.length + sumC Talk.cost a.talks) : Nat) : Int) ≤ left - ((Term.costs a.known : Nat) : Int) - (((a.cache.length + sumC Policy.cost a.cache) : Nat) : Int) - (((a.hosts.length + sumC Host.cost a.hosts) : Nat) : Int) - (((a.letters.length + sumC Letter.cost a.letters) : Nat) : Int) - ((a.book.size : Nat) : Int) - (((a.calls.length + sumC CallD.cost a.calls) : Nat) : Int)
  case neg => rw [decide_eq_false g6, vLeft_no g6]; rfl
  rw [decide_eq_true g6, vLeft_yes g6, vLeft_add g6, Bool.not_true, br_f]
  have b7 := (bd_sl (bd_of hb (f := .sl false .int a.told) (by simp [WorldD.cells]))).1
  rw [szIntS_t a.told (left - ((Term.costs a.known : Nat) : Int) - (((a.cache.length + sumC Policy.cost a.cache) : Nat) : Int) - (((a.hosts.length + sumC Host.cost a.hosts) : Nat) : Int) - (((a.letters.length + sumC Letter.cost a.letters) : Nat) : Int) - ((a.book.size : Nat) : Int) - (((a.calls.length + sumC CallD.cost a.calls) : Nat) : Int) - (((a.talks.length + sumC Talk.cost a.talks) : Nat) : Int)) (by omega) (by omega) b7, qb_s, vLeft_ge (by omega)]
  by_cases g7 : ((a.told.length : Nat) : Int) ≤ left - ((Term.costs a.known : Nat) : Int) - (((a.cache.length + sumC Policy.cost a.cache) : Nat) : Int) - (((a.hosts.length + sumC Host.cost a.hosts) : Nat) : Int) - (((a.letters.length + sumC Letter.cost a.letters) : Nat) : Int) - ((a.book.size : Nat) : Int) - (((a.calls.length + sumC CallD.cost a.calls) : Nat) : Int) - (((a.talks.length + sumC Talk.cost a.talks) : Nat) : Int)
  case neg => rw [decide_eq_false g7, vLeft_not g7]; rfl
  rw [decide_eq_true g7, vLeft_yes g7]; rfl

end Go.Proofs.YtoebfbhcbpiheaaGreatDoor
