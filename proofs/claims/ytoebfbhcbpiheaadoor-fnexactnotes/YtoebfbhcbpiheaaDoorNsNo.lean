/-
  Notes read from their lines.
-/
import Derived.Test.YtoebfbhcbpiheaaDoorNsNt
import Derived.Test.YtoebfbhcbpiheaaDoorVm6
namespace Go.Proofs.YtoebfbhcbpiheaaDoor
open Go.Vm
set_option linter.unusedVariables false
set_option linter.unusedSimpArgs false

theorem bnds_tail {n k : Nat} (h : k ≤ n) : bnds n (some (k : Int)) none = some (k, n) := by
  unfold bnds
  simp only [Option.getD_some, Option.getD_none, Int.toNat_natCast]
  rw [if_pos (by omega)]

theorem bnds_front {n k : Nat} (h : k ≤ n) : bnds n none (some (k : Int)) = some (0, k) := by
  unfold bnds
  simp only [Option.getD_some, Option.getD_none, Int.toNat_natCast]
  rw [if_pos (by omega)]
  rfl

theorem spec_l12Words_t (s : ByteArray) (hs : s.size ≤ 900000000) : spec_l12Words_T s = some (words s) := by
  refine spec_l12Words_of (s.size + 2) s ?_
  unfold spec_l12Words_R
  have hL : (s.data.toList.map some ++ [none]).length = s.size + 1 := by rw [List.length_append, List.length_map, bytes_len]; rfl
  have hloop := lp_list (P := Tryd.prog) (cfg := cfg) (T := RN) (n := s.size + 2) (d := 5) (f := 57) (r := 4) (na := 0) (s.data.toList.map some ++ [none]) scanW
    (fun i a => spec_l12Words_S4 s a.1 ((i - a.2.length : Nat) : Int) i)
    (fun a => (.ext 0, spec_l12Words_O4 a.1)) (fun _ => (.ret, spec_l12Words_O4 [])) (fun i a => i ≤ s.size → ScanInv s.data.toList i a)
    (fun a _ => by
      rw [spec_l12Words_round4, hL, show decide (((s.size + 1 : Nat) : Int) ≤ (s.size : Int)) = false by simp; omega]
      rfl) (fun _ => rfl) (fun _ => rfl)
    (fun i x a hx hi hinv => by
      rw [hL] at hi
      have hI := hinv (by omega)
      have h1 := hI.1
      have h2 := hI.2.1
      have hex := extract_list (s := s) (f := i - a.2.length) (i := i) (l := a.2) (by omega) hI.2.2
      have happ : Nat.ble (a.1.length + 1) appMax = true := by rw [Nat.ble_eq, appMax]; omega
      rw [spec_l12Words_round4, show decide ((i : Int) ≤ (s.size : Int)) = true by simp; omega, bnds_nat (n := s.size) (f := i - a.2.length) (i := i) (by omega) (by omega), wrap_succ (by omega)]
      simp only [br, qb_s, hex, List.length_cons, List.length_nil, Nat.zero_add, happ]
      by_cases he : i = s.size
      · have hxn : x = none := by
          rw [List.getElem?_append_right (by simp; omega)] at hx
          simp [he] at hx
          exact hx.symm
        subst hxn
        rw [show ((i : Int) == (s.size : Int)) = true by simp [he]]
        simp [scanW]
      · obtain ⟨b, hb, rfl⟩ : ∃ b, s.data.toList[i]? = some b ∧ x = some b := by
          rw [List.getElem?_append_left (by simp; omega), List.getElem?_map] at hx
          cases hb : s.data.toList[i]? with
          | none => rw [hb] at hx; cases hx
          | some b => rw [hb] at hx; exact ⟨b, rfl, by simpa using hx.symm⟩
        rw [show ((i : Int) == (s.size : Int)) = false by simp; omega, byteAt_nat (bytes_get hb)]
        simp only [qb_s]
        by_cases h46 : b = 32
        · subst h46
          simp [scanW]
        · have : ((b.toNat : Int) == 32) = false := by
            simp only [beq_eq_false_iff_ne, ne_eq]
            intro e
            exact h46 (UInt8.toNat_inj.1 (by have : (32 : UInt8).toNat = 32 := rfl; omega))
          rw [this]
          simp only [scanW, h46, if_false]
          rw [show i + 1 - (a.2 ++ [b]).length = i - a.2.length by simp])
    (fun i x a a' hx hi hinv hst hle => by
      rw [hL] at hi
      have hI := hinv (by omega)
      cases x with
      | none => simp only [scanW, Sum.inl.injEq] at hst; subst hst; exact hI.cut _
      | some b =>
        have hb : s.data.toList[i]? = some b := by
          rw [List.getElem?_append_left (by simp; omega), List.getElem?_map] at hx
          cases hb : s.data.toList[i]? with
          | none => rw [hb] at hx; cases hx
          | some c => rw [hb] at hx; simp at hx; rw [hx]
        simp only [scanW] at hst
        split at hst
        · simp only [Sum.inl.injEq] at hst; subst hst; exact hI.cut _
        · simp only [Sum.inl.injEq] at hst; subst hst; exact hI.go hb) ([], []) (s.size + 2) (fun _ => ⟨Nat.zero_le _, Nat.zero_le _, rfl⟩) (by rw [hL]; omega)
  rw [scan_words] at hloop
  exact (qb_run (spec_l12Words_L4_of hloop)).trans rfl
theorem spec_l12Num_t (s : ByteArray) (hs : s.size ≤ 900000000) : spec_l12Num_T s = some (num7 s) := by
  refine spec_l12Num_of 8 s ?_
  unfold spec_l12Num_R
  have hlen : (s.data.toList.take 7).length = min 7 s.size := by rw [List.length_take, bytes_len]
  have hloop := lp_fold (P := Tryd.prog) (cfg := cfg) (T := RN) (n := 8) (d := 5) (f := 58) (r := 3) (na := 0) (s.data.toList.take 7) dstep
    (fun i a => spec_l12Num_S3 s a i) (fun a => (.ext 0, spec_l12Num_O3 a)) (fun _ _ => True)
    (fun a _ => by
      rw [spec_l12Num_round3, hlen]
      by_cases h7 : 7 ≤ s.size
      · rw [show min 7 s.size = 7 by omega, show decide (((7 : Nat) : Int) < 7) = false by decide]
        cases decide (((7 : Nat) : Int) < (s.size : Int)) <;> rfl
      · rw [show min 7 s.size = s.size by omega, lt_self]; rfl) (fun _ => rfl)
    (fun i x a hx hi _ => by
      rw [hlen] at hi
      have hb : s.data.toList[i]? = some x := by
        rw [List.getElem?_take] at hx
        rw [if_pos (by omega)] at hx
        exact hx
      refine ⟨?_, trivial⟩
      rw [spec_l12Num_round3, show decide ((i : Int) < (s.size : Int)) = true by simp; omega, show decide ((i : Int) < 7) = true by simp; omega, byteAt_nat (bytes_get hb)]
      simp only [br_t, qb_s]
      rw [wrap_succ (by omega)]
      rfl) 0 8 trivial (by omega)
  exact (qb_run (spec_l12Num_L3_of hloop)).trans rfl
theorem HasNl_t (s : ByteArray) (hs : s.size ≤ 900000000) : internal_stringslite_HasSuffix_T s ⟨#[10]⟩ = some (decide (1 ≤ s.size ∧ s.extract (s.size - 1) s.size = ⟨#[10]⟩)) := by
  refine internal_stringslite_HasSuffix_of 0 s ⟨#[10]⟩ ?_
  unfold internal_stringslite_HasSuffix_R
  have h1 : (ByteArray.mk #[10]).size = 1 := rfl
  rw [h1]
  by_cases h : 1 ≤ s.size
  · rw [show decide ((s.size : Int) ≥ ((1 : Nat) : Int)) = true by simp; omega, br_t, wrap_id (by omega) (by omega), show (s.size : Int) - ((1 : Nat) : Int) = ((s.size - 1 : Nat) : Int) by omega, bnds_tail (by omega), qb_s]
    simp only [beq_bytes, h, true_and]
  · rw [show decide ((s.size : Int) ≥ ((1 : Nat) : Int)) = false by simp; omega, br_f]
    simp [h]

theorem TrimNl_t (s : ByteArray) (hs : s.size ≤ 900000000) : strings_TrimSuffix_T s ⟨#[10]⟩ = some (cutNl s) := by
  refine strings_TrimSuffix_of 0 s ⟨#[10]⟩ ?_
  unfold strings_TrimSuffix_R
  rw [internal_stringslite_TrimSuffix_of 0 s ⟨#[10]⟩ (y := cutNl s) (by
    unfold internal_stringslite_TrimSuffix_R cutNl
    rw [HasNl_t s hs, qb_s]
    by_cases h : 1 ≤ s.size ∧ s.extract (s.size - 1) s.size = ⟨#[10]⟩
    · have h0 := h.1
      have h1 : (ByteArray.mk #[10]).size = 1 := rfl
      rw [decide_eq_true h, br_t, if_pos h, h1, wrap_id (by omega) (by omega), show (s.size : Int) - ((1 : Nat) : Int) = ((s.size - 1 : Nat) : Int) by omega, bnds_front (by omega), qb_s]
    · rw [decide_eq_false h, br_f, if_neg h])]
  rfl

theorem cutNl_size (s : ByteArray) : (cutNl s).size ≤ s.size := by
  unfold cutNl
  split
  · rw [ByteArray.size_extract]; omega
  · exact Nat.le_refl _
theorem impl_noteNumber_t (w : List ByteArray) (i : Nat) (hw : ∀ x ∈ w, x.size ≤ 900000000) : impl_noteNumber_T w (i : Int) = some (numAt w i) := by
  refine impl_noteNumber_of 0 w i ?_
  unfold impl_noteNumber_R numAt
  by_cases h : i < w.length
  · obtain ⟨x, hx⟩ : ∃ x, w[i]? = some x := ⟨_, List.getElem?_eq_getElem h⟩
    have hm := List.mem_of_getElem? hx
    rw [show decide ((i : Int) ≥ (w.length : Int)) = false by simp; omega, br_f, idx_nat hx, qb_s, Atoi_t x (by have := hw x hm; omega), qb_s, hx]
    simp only
    cases (atoiB x).2 <;> rfl
  · rw [show decide ((i : Int) ≥ (w.length : Int)) = true by simp; omega, br_t, List.getElem?_eq_none (by omega)]
end Go.Proofs.YtoebfbhcbpiheaaDoor
