/-
  A number's digits, as the reference writes them; the library's numbers and joined texts; words by number.
-/
import Derived.Test.YtepghohkfnmhmaaDoorWtTm
import Derived.Test.YtepghohkfnmhmaaDoorVm6
namespace Go.Proofs.YtepghohkfnmhmaaDoor
open Go.Vm Go.Proofs
set_option linter.unusedVariables false
set_option linter.unusedSimpArgs false

theorem spec_l1Digits_t (k : Int) (h0 : -9223372036854775808 ≤ k) (h1 : k ≤ 9223372036854775807) : spec_l1Digits_T k = some (itoaB k) := by
  refine spec_l1Digits_of (k.natAbs + 1) k ?_
  unfold spec_l1Digits_R
  by_cases hk : k = 0
  · subst hk
    rw [itoaB_zero]
    rfl
  · rw [show (k == 0) = false by simp [hk], br_f]
    have hl := digs_len (m := k.natAbs) (by omega)
    rcases Int.le_total 0 k with hs | hs
    · have hd : decide (k < 0) = false := by simp; omega
      have hloop := lp_digits (P := Tryd.prog) (cfg := cfg) (T := RN) (n := k.natAbs + 1) (d := 5) (f := 62) (r := 5)
        (fun x b acc => spec_l1Digits_S5 x b acc) (fun b acc => spec_l1Digits_O5 b acc)
        (fun x b acc => spec_l1Digits_round5 _ x b acc) false k.natAbs false [] (k.natAbs + 1) (by omega) (fun _ => by omega) (by simp; omega) (by omega)
      rw [hd]
      rw [show (bif false then -(k.natAbs : Int) else (k.natAbs : Int)) = k by simp only [cond_false]; omega] at hloop
      refine (qb_run (spec_l1Digits_L5_of hloop)).trans ?_
      rw [show k = (k.natAbs : Int) by omega, itoaB_pos (by omega)]
      simp only [Int.natAbs_natCast, List.append_nil]
      rfl
    · have hd : decide (k < 0) = true := by simp; omega
      have hloop := lp_digits (P := Tryd.prog) (cfg := cfg) (T := RN) (n := k.natAbs + 1) (d := 5) (f := 62) (r := 5)
        (fun x b acc => spec_l1Digits_S5 x b acc) (fun b acc => spec_l1Digits_O5 b acc)
        (fun x b acc => spec_l1Digits_round5 _ x b acc) true k.natAbs true [] (k.natAbs + 1) (by omega) (fun h => by cases h) (by simp; omega) (by omega)
      rw [hd]
      rw [show (bif true then -(k.natAbs : Int) else (k.natAbs : Int)) = k by simp only [cond_true]; omega] at hloop
      refine (qb_run (spec_l1Digits_L5_of hloop)).trans ?_
      rw [show k = -(k.natAbs : Int) by omega, itoaB_neg (by omega)]
      have hc : catOk (ByteArray.mk #[45]) (ByteArray.mk (digs k.natAbs).toArray) = some () := catOk_ok (by rw [ba_len, ba_size]; simp; omega)
      simp only [Int.natAbs_neg, Int.natAbs_natCast, List.append_nil, isRetE_e, isExt_e, br_t, br_f]
      rw [hc]
      rfl
theorem Itoa_t (k : Int) (h0 : -9223372036854775808 ≤ k) (h1 : k ≤ 9223372036854775807) : strconv_Itoa_T k = some (itoaB k) := by
  have h : RN 71 [.int k] [] = some (.str (itoaB k), [], []) := by
    refine rn_ext (g := extItoa) rfl ?_
    unfold extItoa
    simp only
    rw [if_pos ⟨h0, h1⟩]
  unfold strconv_Itoa_T presT
  rw [pres_f h]
  rfl
theorem Join_t (l : List ByteArray) (sep : ByteArray) (h0 : l.length ≤ 140737488355328) (h1 : (Lib.join (l.map (·.data.toList)) sep.data.toList).length ≤ 140737488355328) : strings_Join_T l sep = some (joinB l sep) := by
  have h : RN 107 [.sl false .str l, .str sep] [] = some (.str (joinB l sep), [], []) := by
    refine rn_ext (g := extJoin) rfl ?_
    unfold extJoin
    simp only
    rw [if_pos ⟨h0, h1⟩]
  unfold strings_Join_T presT
  rw [pres_f h]
  rfl
theorem spec_l17Name_t (n : Int) (l : List ByteArray) (h : l.length ≤ 1000) : spec_l17Name_T n l = some (nameOf n l) := by
  refine spec_l17Name_of 0 n l ?_
  unfold spec_l17Name_R
  by_cases h1 : 1 ≤ n
  · by_cases h2 : n ≤ l.length
    · rw [idx_name h1 h2 h, show decide (n < 1) = false by simp; omega, show decide (n > (l.length : Int)) = false by simp; omega]
      rfl
    · rw [show decide (n < 1) = false by simp; omega, show decide (n > (l.length : Int)) = true by simp; omega]
      simp [br, nameOf, h2]
  · rw [show decide (n < 1) = true by simp; omega]
    simp [br, nameOf, h1]
theorem impl_named_t (n : Int) (l : List ByteArray) (h : l.length ≤ 1000) : impl_named_T n l = some (nameOf n l) := by
  refine impl_named_of 0 n l ?_
  unfold impl_named_R
  rw [impl_in_t, qb_s]
  by_cases h1 : 1 ≤ n
  · by_cases h2 : n ≤ l.length
    · rw [idx_name h1 h2 h, decide_eq_true h1, decide_eq_true h2]
      rfl
    · rw [decide_eq_true h1, decide_eq_false h2]
      simp [br, nameOf, h2]
  · rw [decide_eq_false h1]
    simp [br, nameOf, h1]
theorem spec_LetterText_t (l : Letter) (hs : l.domain.size ≤ 1000000000) (t0 : -9223372036854775808 ≤ l.tries) (t1 : l.tries ≤ 9223372036854775807) (n0 : -9223372036854775808 ≤ l.next) (n1 : l.next ≤ 9223372036854775807) : spec_LetterText_T l = some (letterText l) := by
  refine spec_LetterText_of 0 l ?_
  have hn : (nameOf l.state letterNames).size ≤ 5 := nameOf_size (by omega) (by decide)
  have h1 := spec_l17Name_t l.state letterNames (by decide)
  have s2 := itoaB_size t0 t1
  have s3 := itoaB_size n0 n1
  unfold letterNames at h1 hn
  unfold spec_LetterText_R
  rw [h1]
  simp only [qb_s, spec_l1Digits_t l.tries t0 t1, spec_l1Digits_t l.next n0 n1]
  simp (disch := (simp only [ByteArray.size_append, ba_size, List.size_toArray, List.length_cons, List.length_nil]; omega)) only [catOk_ok, qb_s]
  rfl
theorem impl_LetterText_t (l : Letter) (hs : l.domain.size ≤ 1000000000) (t0 : -9223372036854775808 ≤ l.tries) (t1 : l.tries ≤ 9223372036854775807) (n0 : -9223372036854775808 ≤ l.next) (n1 : l.next ≤ 9223372036854775807) : impl_LetterText_T l = some (letterText l) := by
  refine impl_LetterText_of 0 l ?_
  have hn : (nameOf l.state letterNames).size ≤ 5 := nameOf_size (by omega) (by decide)
  have h1 := impl_named_t l.state letterNames (by decide)
  have s2 := itoaB_size t0 t1
  have s3 := itoaB_size n0 n1
  have hj := join4 l.domain (nameOf l.state letterNames) (itoaB l.tries) (itoaB l.next)
  have hlen : (joinB [l.domain, nameOf l.state letterNames, itoaB l.tries, itoaB l.next] ⟨#[32]⟩).size ≤ 1000000100 := by
    rw [hj]
    simp only [ByteArray.size_append, ba_size, List.size_toArray, List.length_cons, List.length_nil]
    omega
  have h4 := Join_t [l.domain, nameOf l.state letterNames, itoaB l.tries, itoaB l.next] ⟨#[32]⟩ (by simp) (by
    unfold joinB at hlen
    rw [ba_len] at hlen
    omega)
  rw [hj] at h4
  unfold letterNames at h1 h4
  unfold impl_LetterText_R
  rw [h1]
  simp only [qb_s, Itoa_t l.tries t0 t1, Itoa_t l.next n0 n1, h4]
  rfl
theorem spec_ClientText_t (c : Client) (h : c.host.size ≤ 4611686018427387904) : spec_ClientText_T c = some (clientText c) := by
  refine spec_ClientText_of 0 c ?_
  have hn : (nameOf c.step stepNames).size ≤ 5 := nameOf_size (by omega) (by decide)
  have h1 := spec_l17Name_t c.step stepNames (by decide)
  unfold spec_ClientText_R
  have h2 := h1
  simp only [stepNames] at h2
  rw [h2]
  simp only [qb_s]
  unfold clientText
  rw [show (nameOf c.step [⟨#[103, 114, 101, 101, 116]⟩, ⟨#[101, 104, 108, 111]⟩, ⟨#[114, 101, 97, 100, 121]⟩, ⟨#[114, 101, 112, 108, 121]⟩, ⟨#[109, 97, 105, 108]⟩, ⟨#[114, 99, 112, 116]⟩, ⟨#[100, 97, 116, 97]⟩, ⟨#[98, 111, 100, 121]⟩, ⟨#[100, 111, 110, 101]⟩, ⟨#[102, 97, 105, 108]⟩]) = nameOf c.step stepNames from rfl]
  cases c.must <;> cases c.tls <;> cases c.proved <;>
    simp (disch := (simp only [ByteArray.size_append, ba_size, List.size_toArray, List.length_cons, List.length_nil]; omega)) only [catOk_ok, qb_s, br, cond_true, cond_false]
theorem impl_ClientText_t (c : Client) (h : c.host.size ≤ 4611686018427387904) : impl_ClientText_T c = some (clientText c) := by
  refine impl_ClientText_of 0 c ?_
  have hn : (nameOf c.step stepNames).size ≤ 5 := nameOf_size (by omega) (by decide)
  have h1 := impl_named_t c.step stepNames (by decide)
  unfold impl_ClientText_R
  have h2 := h1
  simp only [stepNames] at h2
  rw [h2]
  simp only [qb_s]
  unfold clientText
  rw [show (nameOf c.step [⟨#[103, 114, 101, 101, 116]⟩, ⟨#[101, 104, 108, 111]⟩, ⟨#[114, 101, 97, 100, 121]⟩, ⟨#[114, 101, 112, 108, 121]⟩, ⟨#[109, 97, 105, 108]⟩, ⟨#[114, 99, 112, 116]⟩, ⟨#[100, 97, 116, 97]⟩, ⟨#[98, 111, 100, 121]⟩, ⟨#[100, 111, 110, 101]⟩, ⟨#[102, 97, 105, 108]⟩]) = nameOf c.step stepNames from rfl]
  cases c.must <;> cases c.tls <;> cases c.proved <;>
    simp (disch := (simp only [ByteArray.size_append, ba_size, List.size_toArray, List.length_cons, List.length_nil]; omega)) only [catOk_ok, qb_s, br, cond_true, cond_false]
end Go.Proofs.YtepghohkfnmhmaaDoor
