/-
  A number's digits, as the reference writes them; the library's numbers and joined texts.
-/
import Derived.Test.YthhgnkogjccceaaDoorDRes
import Derived.Test.YthhgnkogjccceaaDoorVmDig
namespace Go.Proofs.YthhgnkogjccceaaDoor
open Go.Vm
set_option linter.unusedVariables false
set_option linter.unusedSimpArgs false

theorem spec_l1Digits_rn (k : Int) (h0 : -9223372036854775808 ≤ k) (h1 : k ≤ 9223372036854775807) : RN 26 [.int k] [] = some (.str (itoaB k), [], []) := by
  refine rn_of_resid (n := k.natAbs + 1) ?_
  rw [spec_l1Digits_res]
  by_cases hk : k = 0
  · subst hk
    rw [itoaB_zero]
    rfl
  · rw [show (k == 0) = false by simp [hk]]
    simp only [br]
    have hl := digs_len (m := k.natAbs) (by omega)
    rcases Int.le_total 0 k with hs | hs
    · have hd : decide (k < 0) = false := by simp; omega
      have hloop := lp_digits (P := Tryd.prog) (cfg := cfg) (T := RN) (n := k.natAbs + 1) (d := 5) (f := 26) (r := 5)
        (fun x b acc => ⟨frOf [(0, .int x), (3, .bool b), (4, .str acc)], hpIds []⟩) (fun b acc => ⟨frOf [(3, .bool b), (4, .str acc)], hpIds []⟩)
        (fun x b acc => spec_l1Digits_round5 _ x b acc) false k.natAbs false [] (k.natAbs + 1) (by omega) (fun _ => by omega) (by simp; omega) (by omega)
      rw [hd]
      rw [show (bif false then -(k.natAbs : Int) else (k.natAbs : Int)) = k by simp only [cond_false]; omega] at hloop
      refine (qb_run hloop).trans ?_
      rw [show k = (k.natAbs : Int) by omega, itoaB_pos (by omega)]
      simp only [Int.natAbs_natCast, List.append_nil]
      rfl
    · have hd : decide (k < 0) = true := by simp; omega
      have hloop := lp_digits (P := Tryd.prog) (cfg := cfg) (T := RN) (n := k.natAbs + 1) (d := 5) (f := 26) (r := 5)
        (fun x b acc => ⟨frOf [(0, .int x), (3, .bool b), (4, .str acc)], hpIds []⟩) (fun b acc => ⟨frOf [(3, .bool b), (4, .str acc)], hpIds []⟩)
        (fun x b acc => spec_l1Digits_round5 _ x b acc) true k.natAbs true [] (k.natAbs + 1) (by omega) (fun h => by cases h) (by simp; omega) (by omega)
      rw [hd]
      rw [show (bif true then -(k.natAbs : Int) else (k.natAbs : Int)) = k by simp only [cond_true]; omega] at hloop
      refine (qb_run hloop).trans ?_
      rw [show k = -(k.natAbs : Int) by omega, itoaB_neg (by omega)]
      have hc : catOk (ByteArray.mk #[45]) (ByteArray.mk (digs k.natAbs).toArray) = some () := catOk_ok (by rw [ba_len, ba_size]; simp; omega)
      simp only [Int.natAbs_neg, Int.natAbs_natCast, List.append_nil]
      show qb (catOk (ByteArray.mk #[45]) (ByteArray.mk (digs k.natAbs).toArray)) _ = _
      rw [hc]
      rfl

theorem Itoa_rn (k : Int) (h0 : -9223372036854775808 ≤ k) (h1 : k ≤ 9223372036854775807) : RN 28 [.int k] [] = some (.str (itoaB k), [], []) := by
  refine rn_ext (g := extItoa) rfl ?_
  unfold extItoa
  simp only
  rw [if_pos ⟨h0, h1⟩]

end Go.Proofs.YthhgnkogjccceaaDoor
