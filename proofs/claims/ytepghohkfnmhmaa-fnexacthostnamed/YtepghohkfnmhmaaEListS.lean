/-
  What the laws' own helpers come to: lists of texts.
-/
import Derived.Test.YtepghohkfnmhmaaERes
import Derived.Test.YtepghohkfnmhmaaVmLib
namespace Go.Proofs.Ytepghohkfnmhmaa
open Go.Vm
set_option linter.unusedVariables false
set_option linter.unusedSimpArgs false

theorem eqStringS_rn (a b : List ByteArray) (t0 t1 : Bool) (ha : a.length < 9223372036854775807) :
    RN 85 [.sl t0 .str a, .sl t1 .str b] [] = some (.bool (decide (a = b)), [], []) := by
  refine rn_of_resid (n := a.length + 1) ?_
  rw [laws_eqStringS_res]
  by_cases hl : a.length = b.length
  · rw [show ((a.length : Int) != (b.length : Int)) = false by simp [hl]]
    simp only [br]
    obtain ⟨e, he, hloop⟩ := lp_eq (P := Try.prog) (cfg := cfg) (T := RN) (n := a.length + 1) (d := 5) (f := 85) (r := 4) (na := 0) a b hl
      (fun i => ⟨frOf [(0, .sl t0 .str a), (1, .sl t1 .str b), (4, .bool false), (5, .int i)], hpIds []⟩)
      (.ext 0, ⟨frOf [(4, .bool false)], hpIds []⟩) (.ret, ⟨frOf [(4, .bool false)], hpIds []⟩)
      (by rw [laws_eqStringS_round4, lt_self]; rfl) rfl rfl
      (fun i x y hx hy hi => by
        rw [laws_eqStringS_round4, lt_t hi, idx_nat hx, idx_nat hy]
        simp only [br, qb, beq_bytes]
        rw [wrap_succ (by omega)]
        exact ⟨fun he => by simp only [he, decide_true, Bool.not_true], fun he => by simp only [he, decide_false, Bool.not_false]⟩)
      (a.length + 1) (by omega)
    refine (qb_run hloop).trans ?_
    rw [← he]
    cases e <;> rfl
  · rw [show ((a.length : Int) != (b.length : Int)) = true by simp; omega]
    have : ¬ a = b := fun e => hl (by rw [e])
    simp [br, this]

theorem toStringS_rn (a : List ByteArray) (t0 : Bool) (ha : a.length ≤ 1000000000) :
    RN 82 [.sl t0 .str a] [] = some (.c (.row (.ret 0 0) .str), [], [.row true .str a]) := by
  refine rn_of_resid (n := a.length + 1) ?_
  rw [laws_toStringS_res]
  rw [show (decide ((a.length : Int) = (a.length : Int)) && decide (0 ≤ (a.length : Int)) && ((a.length : Int)).toNat.ble appMax) = true by simp [appMax]; omega]
  simp only [br]
  rw [show ((a.length : Int)).toNat = a.length by omega]
  have hloop := lp_copy (P := Try.prog) (cfg := cfg) (T := RN) (n := a.length + 1) (d := 5) (f := 82) (r := 3) (na := 0) a (zeroEl .str)
    (fun i l => ⟨frOf [(0, .sl t0 .str a), (3, .c (.row (.own 3) .str)), (4, .int i)], hpIds [(.own 3, .row true .str l)]⟩)
    (fun l => ⟨frOf [(3, .c (.row (.own 3) .str))], hpIds [(.own 3, .row true .str l)]⟩)
    (fun _ _ => by rw [laws_toStringS_round3, lt_self]; rfl)
    (fun i x l hx hi hinv => by
      obtain ⟨y, hy⟩ : ∃ y, l[i]? = some y := ⟨l[i]'(by omega), by simp⟩
      rw [laws_toStringS_round3, lt_t hi, idx_nat hx]
      simp only [br, qb, idx_nat hy]
      rw [show ((i : Int)).toNat = i by omega, hy]
      simp only
      rw [wrap_succ (by omega)])
    (a.length + 1) (by omega)
  refine (qb_run hloop).trans ?_
  rfl

theorem szStringS_rn (a : List ByteArray) (t0 : Bool) (left : Int) (h0 : 0 ≤ left) (h1 : left ≤ 1048576) (ha : a.length ≤ 9223372036854775807) (ih : ∀ x ∈ a, x.size ≤ 9223372036854775807) :
    RN 79 [.sl t0 .str a, .int left] [] = some (.int (vLeft (a.length + sumC (ByteArray.size) a) left), [], []) := by
  refine rn_of_resid (n := a.length + 1) ?_
  rw [laws_szStringS_res]
  rw [wrap_id (by omega) (by omega)]
  by_cases hl : (a.length : Int) ≤ left
  · rw [show decide (left - (a.length : Int) < 0) = false by simp; omega]
    simp only [br]
    have hloop := lp_sz (P := Try.prog) (cfg := cfg) (T := RN) (n := a.length + 1) (d := 5) (f := 79) (r := 5) (na := 0) a (ByteArray.size)
      (fun i left => ⟨frOf [(0, .sl t0 .str a), (1, .int left), (4, .int 0), (5, .int i)], hpIds []⟩)
      (fun left => ⟨frOf [(1, .int left), (4, .int 0)], hpIds []⟩) (fun m => ⟨frOf [(1, .int m), (4, .int (-1))], hpIds []⟩)
      (fun _ _ _ => by rw [laws_szStringS_round5, lt_self]; rfl)
      (fun i x left hx hi h0 h1 => by
        have hxs := ih x (List.mem_of_getElem? hx)
        rw [laws_szStringS_round5, lt_t hi, idx_nat hx]
        simp only [qb]
        rw [wrap_id (by omega) (by omega)]
        simp only [br]
        refine ⟨fun he => ?_, fun he => ⟨left - x.size, ?_⟩⟩
        · rw [show decide (left - (x.size : Int) < 0) = false by simp; omega]
          simp only
          rw [wrap_succ (by omega)]
        · rw [show decide (left - (x.size : Int) < 0) = true by simp; omega])
      (left - a.length) (a.length + 1) (by omega) (by omega) (by omega)
    by_cases hc : ((sumC (ByteArray.size) a : Nat) : Int) ≤ left - a.length
    · refine (qb_run (hloop.1 hc)).trans ?_
      rw [show vLeft (a.length + sumC (ByteArray.size) a) left = left - a.length - sumC (ByteArray.size) a by unfold vLeft; rw [if_pos (by omega)]; omega]
      rfl
    · obtain ⟨m, hm⟩ := hloop.2 hc
      refine (qb_run hm).trans ?_
      rw [show vLeft (a.length + sumC (ByteArray.size) a) left = -1 by unfold vLeft; rw [if_neg (by omega)]]
      rfl
  · rw [show decide (left - (a.length : Int) < 0) = true by simp; omega]
    simp only [br, vLeft]
    rw [if_neg (by omega)]

end Go.Proofs.Ytepghohkfnmhmaa
