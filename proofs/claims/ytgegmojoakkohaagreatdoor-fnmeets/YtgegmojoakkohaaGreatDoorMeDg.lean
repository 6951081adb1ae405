/-
  A number's digits, as the reference writes them; the library's numbers and joined texts; words by number.
-/
import Derived.Test.YtgegmojoakkohaaGreatDoorMeTm
import Derived.Test.YtgegmojoakkohaaGreatDoorVm6
namespace Go.Proofs.YtgegmojoakkohaaGreatDoor
open Go.Vm Go.Proofs
set_option linter.unusedVariables false
set_option linter.unusedSimpArgs false

theorem spec_l1Digits_t (k : Int) (h0 : -9223372036854775808 ≤ k) (h1 : k ≤ 9223372036854775807) : spec_l1Digits_T k = some (itoaB k) := by
  refine spec_l1Digits_of (k.natAbs + 1) k ?_
  unfold spec_l1Digits_R
  by_cases hk : k = 0
  · subst hk
    rw [itoaB_zero]
    rfl
  · rw [show (k == 0) = false by simp [hk], br_f]
    have hl := digs_len (m := k.natAbs) (by omega)
    rcases Int.le_total 0 k with hs | hs
    · have hd : decide (k < 0) = false := by simp; omega
      have hloop := lp_digits (P := Tryz.prog) (cfg := cfg) (T := RN) (n := k.natAbs + 1) (d := 5) (f := 156) (r := 5)
        (fun x b acc => spec_l1Digits_S5 x b acc) (fun b acc => spec_l1Digits_O5 b acc)
        (fun x b acc => spec_l1Digits_round5 _ x b acc) false k.natAbs false [] (k.natAbs + 1) (by omega) (fun _ => by omega) (by simp; omega) (by omega)
      rw [hd]
      rw [show (bif false then -(k.natAbs : Int) else (k.natAbs : Int)) = k by simp only [cond_false]; omega] at hloop
      refine (qb_run (spec_l1Digits_L5_of hloop)).trans ?_
      rw [show k = (k.natAbs : Int) by omega, itoaB_pos (by omega)]
      simp only [Int.natAbs_natCast, List.append_nil]
      rfl
    · have hd : decide (k < 0) = true := by simp; omega
      have hloop := lp_digits (P := Tryz.prog) (cfg := cfg) (T := RN) (n := k.natAbs + 1) (d := 5) (f := 156) (r := 5)
        (fun x b acc => spec_l1Digits_S5 x b acc) (fun b acc => spec_l1Digits_O5 b acc)
        (fun x b acc => spec_l1Digits_round5 _ x b acc) true k.natAbs true [] (k.natAbs + 1) (by omega) (fun h => by cases h) (by simp; omega) (by omega)
      rw [hd]
      rw [show (bif true then -(k.natAbs : Int) else (k.natAbs : Int)) = k by simp only [cond_true]; omega] at hloop
      refine (qb_run (spec_l1Digits_L5_of hloop)).trans ?_
      rw [show k = -(k.natAbs : Int) by omega, itoaB_neg (by omega)]
      have hc : catOk (ByteArray.mk #[45]) (ByteArray.mk (digs k.natAbs).toArray) = some () := catOk_ok (by rw [ba_len, ba_size]; simp; omega)
      simp only [Int.natAbs_neg, Int.natAbs_natCast, List.append_nil, isRetE_e, isExt_e, br_t, br_f]
      rw [hc]
      rfl
theorem Itoa_t (k : Int) (h0 : -9223372036854775808 ≤ k) (h1 : k ≤ 9223372036854775807) : strconv_Itoa_T k = some (itoaB k) := by
  have h : RN 124 [.int k] [] = some (.str (itoaB k), [], []) := by
    refine rn_ext (g := extItoa) rfl ?_
    unfold extItoa
    simp only
    rw [if_pos ⟨h0, h1⟩]
  unfold strconv_Itoa_T presT
  rw [pres_f h]
  rfl
theorem Atoi_t (s : ByteArray) (hs : s.size ≤ 281474976710656) : strconv_Atoi_T s = some ((atoiB s).1, (atoiB s).2, ()) := by
  have h : RN 137 [.str s] [] = some (.tup [.int (atoiB s).1, .c (errC (atoiB s).2)], [], []) := by
    refine rn_ext (g := extAtoi) rfl ?_
    unfold extAtoi
    simp only
    rw [if_pos hs]
  unfold strconv_Atoi_T presT pres
  rw [h]
  generalize (atoiB s).1 = a
  cases (atoiB s).2 <;> rfl
end Go.Proofs.YtgegmojoakkohaaGreatDoor
