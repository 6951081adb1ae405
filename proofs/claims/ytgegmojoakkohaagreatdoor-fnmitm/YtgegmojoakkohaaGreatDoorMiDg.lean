/-
  A number's digits, as the reference writes them; the library's numbers and joined texts; words by number.
-/
import Derived.Test.YtgegmojoakkohaaGreatDoorMiTm
import Derived.Test.YtgegmojoakkohaaGreatDoorVm6
namespace Go.Proofs.YtgegmojoakkohaaGreatDoor
open Go.Vm Go.Proofs
set_option linter.unusedVariables false
set_option linter.unusedSimpArgs false

theorem Itoa_t (k : Int) (h0 : -9223372036854775808 ≤ k) (h1 : k ≤ 9223372036854775807) : strconv_Itoa_T k = some (itoaB k) := by
  have h : RN 124 [.int k] [] = some (.str (itoaB k), [], []) := by
    refine rn_ext (g := extItoa) rfl ?_
    unfold extItoa
    simp only
    rw [if_pos ⟨h0, h1⟩]
  unfold strconv_Itoa_T presT
  rw [pres_f h]
  rfl
theorem Atoi_t (s : ByteArray) (hs : s.size ≤ 281474976710656) : strconv_Atoi_T s = some ((atoiB s).1, (atoiB s).2, ()) := by
  have h : RN 137 [.str s] [] = some (.tup [.int (atoiB s).1, .c (errC (atoiB s).2)], [], []) := by
    refine rn_ext (g := extAtoi) rfl ?_
    unfold extAtoi
    simp only
    rw [if_pos hs]
  unfold strconv_Atoi_T presT pres
  rw [h]
  generalize (atoiB s).1 = a
  cases (atoiB s).2 <;> rfl
end Go.Proofs.YtgegmojoakkohaaGreatDoor
