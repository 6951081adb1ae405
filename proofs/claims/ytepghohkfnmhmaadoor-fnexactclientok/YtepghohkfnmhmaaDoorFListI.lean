/-
  What the laws' own helpers come to: lists of integers.
-/
import Derived.Test.YtepghohkfnmhmaaDoorFRes
import Derived.Test.YtepghohkfnmhmaaDoorVmLib
namespace Go.Proofs.YtepghohkfnmhmaaDoor
open Go.Vm
set_option linter.unusedVariables false
set_option linter.unusedSimpArgs false

theorem eqIntS_rn (a b : List Int) (t0 t1 : Bool) (ha : a.length < 9223372036854775807) :
    RN 48 [.sl t0 .int a, .sl t1 .int b] [] = some (.bool (decide (a = b)), [], []) := by
  refine rn_of_resid (n := a.length + 1) ?_
  rw [laws_eqIntS_res]
  by_cases hl : a.length = b.length
  · rw [show ((a.length : Int) != (b.length : Int)) = false by simp [hl]]
    simp only [br]
    obtain ⟨e, he, hloop⟩ := lp_eq (P := Tryd.prog) (cfg := cfg) (T := RN) (n := a.length + 1) (d := 5) (f := 48) (r := 4) (na := 0) a b hl
      (fun i => ⟨frOf [(0, .sl t0 .int a), (1, .sl t1 .int b), (4, .bool false), (5, .int i)], hpIds []⟩)
      (.ext 0, ⟨frOf [(4, .bool false)], hpIds []⟩) (.ret, ⟨frOf [(4, .bool false)], hpIds []⟩)
      (by rw [laws_eqIntS_round4, lt_self]; rfl) rfl rfl
      (fun i x y hx hy hi => by
        rw [laws_eqIntS_round4, lt_t hi, idx_nat hx, idx_nat hy]
        simp only [br, qb]
        rw [wrap_succ (by omega)]
        refine ⟨fun he => ?_, fun he => ?_⟩
        · rw [show (x != y) = false by simp [he]]
        · rw [show (x != y) = true by simp [he]])
      (a.length + 1) (by omega)
    refine (qb_run hloop).trans ?_
    rw [← he]
    cases e <;> rfl
  · rw [show ((a.length : Int) != (b.length : Int)) = true by simp; omega]
    have : ¬ a = b := fun e => hl (by rw [e])
    simp [br, this]

theorem toIntS_rn (a : List Int) (t0 : Bool) (ha : a.length ≤ 1000000000) :
    RN 45 [.sl t0 .int a] [] = some (.c (.row (.ret 0 0) .int), [], [.row true .int a]) := by
  refine rn_of_resid (n := a.length + 1) ?_
  rw [laws_toIntS_res]
  rw [show (decide ((a.length : Int) = (a.length : Int)) && decide (0 ≤ (a.length : Int)) && ((a.length : Int)).toNat.ble appMax) = true by simp [appMax]; omega]
  simp only [br]
  rw [show ((a.length : Int)).toNat = a.length by omega]
  have hloop := lp_copy (P := Tryd.prog) (cfg := cfg) (T := RN) (n := a.length + 1) (d := 5) (f := 45) (r := 3) (na := 0) a (zeroEl .int)
    (fun i l => ⟨frOf [(0, .sl t0 .int a), (3, .c (.row (.own 3) .int)), (4, .int i)], hpIds [(.own 3, .row true .int l)]⟩)
    (fun l => ⟨frOf [(3, .c (.row (.own 3) .int))], hpIds [(.own 3, .row true .int l)]⟩)
    (fun _ _ => by rw [laws_toIntS_round3, lt_self]; rfl)
    (fun i x l hx hi hinv => by
      obtain ⟨y, hy⟩ : ∃ y, l[i]? = some y := ⟨l[i]'(by omega), by simp⟩
      rw [laws_toIntS_round3, lt_t hi, idx_nat hx]
      simp only [br, qb, idx_nat hy]
      rw [show ((i : Int)).toNat = i by omega, hy]
      simp only
      rw [wrap_succ (by omega)])
    (a.length + 1) (by omega)
  refine (qb_run hloop).trans ?_
  rfl

theorem szIntS_rn (a : List Int) (t0 : Bool) (left : Int) (h0 : 0 ≤ left) (h1 : left ≤ 1048576) (ha : a.length ≤ 9223372036854775807) :
    RN 44 [.sl t0 .int a, .int left] [] = some (.int (vLeft a.length left), [], []) := by
  refine rn_of_resid (n := 0) ?_
  rw [laws_szIntS_res, wrap_id (by omega) (by omega)]
  unfold vLeft
  by_cases hl : (a.length : Int) ≤ left
  · rw [if_pos hl, show decide (left - (a.length : Int) < 0) = false by simp; omega]
    rfl
  · rw [if_neg hl, show decide (left - (a.length : Int) < 0) = true by simp; omega]
    rfl

end Go.Proofs.YtepghohkfnmhmaaDoor
