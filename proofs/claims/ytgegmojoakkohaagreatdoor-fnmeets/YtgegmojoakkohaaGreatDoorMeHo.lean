/-
  Hosts that are right.
-/
import Derived.Test.YtgegmojoakkohaaGreatDoorMeTm
import Derived.Test.YtgegmojoakkohaaGreatDoorVm6
namespace Go.Proofs.YtgegmojoakkohaaGreatDoor
open Go.Vm Go.Proofs
set_option linter.unusedVariables false
set_option linter.unusedSimpArgs false

theorem spec_Labels_t (s : ByteArray) (hs : s.size ≤ 900000000) : spec_Labels_T s = some (labels s) := by
  refine spec_Labels_of (s.size + 2) s ?_
  unfold spec_Labels_R
  have hlen := bytes_len s
  have hL : (s.data.toList.map some ++ [none]).length = s.size + 1 := by simp
  have hloop := lp_list (P := Tryz.prog) (cfg := cfg) (T := RN) (n := s.size + 2) (d := 5) (f := 167) (r := 4) (na := 0) (s.data.toList.map some ++ [none])
    scanStep
    (fun i a => spec_Labels_S4 s a.1 ((i - a.2.length : Nat) : Int) i)
    (fun a => (.ext 0, spec_Labels_O4 a.1)) (fun _ => (.ret, spec_Labels_O4 [])) (fun i a => i ≤ s.size → ScanInv s.data.toList i a)
    (fun a _ => by
      rw [spec_Labels_round4, hL, show decide (((s.size + 1 : Nat) : Int) ≤ (s.size : Int)) = false by simp; omega]
      rfl) (fun _ => rfl) (fun _ => rfl)
    (fun i x a hx hi hinv => by
      rw [hL] at hi
      have hI := hinv (by omega)
      have h1 := hI.1
      have h2 := hI.2.1
      have hex := extract_list (s := s) (f := i - a.2.length) (i := i) (l := a.2) (by omega) hI.2.2
      have happ : Nat.ble (a.1.length + 1) appMax = true := by rw [Nat.ble_eq, appMax]; omega
      rw [spec_Labels_round4, show decide ((i : Int) ≤ (s.size : Int)) = true by simp; omega, bnds_nat (n := s.size) (f := i - a.2.length) (i := i) (by omega) (by omega), wrap_succ (by omega)]
      simp only [br, qb_s, hex, List.length_cons, List.length_nil, Nat.zero_add, happ]
      by_cases he : i = s.size
      · have hxn : x = none := by
          rw [List.getElem?_append_right (by simp; omega)] at hx
          simp [he] at hx
          exact hx.symm
        subst hxn
        rw [show ((i : Int) == (s.size : Int)) = true by simp [he]]
        simp [scanStep]
      · obtain ⟨b, hb, rfl⟩ : ∃ b, s.data.toList[i]? = some b ∧ x = some b := by
          rw [List.getElem?_append_left (by simp; omega), List.getElem?_map] at hx
          cases hb : s.data.toList[i]? with
          | none => rw [hb] at hx; cases hx
          | some b => rw [hb] at hx; exact ⟨b, rfl, by simpa using hx.symm⟩
        rw [show ((i : Int) == (s.size : Int)) = false by simp; omega, byteAt_nat (bytes_get hb)]
        simp only [qb_s]
        by_cases h46 : b = 46
        · subst h46
          simp [scanStep]
        · have : ((b.toNat : Int) == 46) = false := by
            simp only [beq_eq_false_iff_ne, ne_eq]
            intro e
            exact h46 (UInt8.toNat_inj.1 (by have : (46 : UInt8).toNat = 46 := rfl; omega))
          rw [this]
          simp only [scanStep, h46, if_false]
          rw [show i + 1 - (a.2 ++ [b]).length = i - a.2.length by simp])
    (fun i x a a' hx hi hinv hst hle => by
      rw [hL] at hi
      have hI := hinv (by omega)
      obtain ⟨b, hb, rfl⟩ : ∃ b, s.data.toList[i]? = some b ∧ x = some b := by
        rw [List.getElem?_append_left (by simp; omega), List.getElem?_map] at hx
        cases hb : s.data.toList[i]? with
        | none => rw [hb] at hx; cases hx
        | some b => rw [hb] at hx; exact ⟨b, rfl, by simpa using hx.symm⟩
      unfold scanStep at hst
      simp only at hst
      split at hst
      · cases hst; exact hI.cut _
      · cases hst; exact hI.go hb)
    ([], []) (s.size + 2) (fun _ => ⟨by simp, by simp, by simp⟩) (by rw [hL]; omega)
  rw [scan_labels] at hloop
  exact (qb_run (spec_Labels_L4_of hloop)).trans rfl

theorem Split_t (s : ByteArray) (c : UInt8) (hs : s.size ≤ 900000000) : strings_Split_T s ⟨#[c]⟩ = some ((splitL c s.data.toList).map fun l => ⟨l.toArray⟩) := by
  have h : RN 175 [.str s, .str ⟨#[c]⟩] [] = some (.c (.f (.sl false .str (splitB s ⟨#[c]⟩))), [], []) := by
    refine rn_ext (g := extSplit) rfl ?_
    unfold extSplit
    simp only
    rw [if_pos ⟨by omega, Nat.le_refl 1⟩]
  have h2 : splitB s ⟨#[c]⟩ = (splitL c s.data.toList).map fun l => ⟨l.toArray⟩ := splitB_one c s
  rw [h2] at h
  unfold strings_Split_T presT
  rw [pres_f h]
  rfl
theorem impl_Labels_t (s : ByteArray) (hs : s.size ≤ 900000000) : impl_Labels_T s = some (labels s) := by
  refine impl_Labels_of 0 s ?_
  unfold impl_Labels_R
  exact (qb_run (Split_t s 46 hs)).trans rfl

theorem spec_l5Label_t (s : ByteArray) (hs : s.size ≤ 900000000) : spec_l5Label_T s = some (labelOk s) := by
  refine spec_l5Label_of (s.size + 1) s ?_
  unfold spec_l5Label_R
  have hlen := bytes_len s
  have hloop := lp_list (P := Tryz.prog) (cfg := cfg) (T := RN) (n := s.size + 1) (d := 5) (f := 168) (r := 2) (na := 0) s.data.toList
    (fun i b (_ : Unit) => if labByte b (decide (i = 0) || decide (i + 1 = s.size)) = true then (.inl () : Unit ⊕ Unit) else .inr ())
    (fun i _ => spec_l5Label_S2 s false i) (fun _ => (.ext 0, spec_l5Label_O2 s false)) (fun _ => (.ret, spec_l5Label_O2 s false)) (fun _ _ => True)
    (fun _ _ => by rw [spec_l5Label_round2, hlen, lt_self]; rfl) (fun _ => rfl) (fun _ => rfl)
    (fun i b _ hx hi _ => by
      rw [hlen] at hi
      rw [spec_l5Label_round2, lt_t hi, byteAt_nat (bytes_get hx), wrap_succ (by omega), wrap_id (by omega) (by omega)]
      simp only [br_if, qb_s, decide_eq_true_eq, beq_iff_eq, Bool.not_eq_true', decide_eq_false_iff_not, if_true]
      by_cases hb : labByte b (decide (i = 0) || decide (i + 1 = s.size)) = true
      · simp only [hb, if_true]
        simp [labByte] at hb
        repeat' split
        all_goals first | rfl | (exfalso; omega)
      · simp only [hb, if_false, Bool.false_eq_true]
        simp [labByte] at hb
        repeat' split
        all_goals first | rfl | (exfalso; omega))
    (fun _ _ _ _ _ _ _ _ => trivial) () (s.size + 1) trivial (by omega)
  rw [lab_fold] at hloop
  unfold labelOk
  cases hc : labFrom s.size 0 s.data.toList with
  | false => rw [hc] at hloop; exact (qb_run (spec_l5Label_L2_of hloop)).trans rfl
  | true =>
    rw [hc] at hloop
    refine (qb_run (spec_l5Label_L2_of hloop)).trans ?_
    simp only [isRetE_e, isExt_e, br_t, br_f, spec_l1In_t, qb_s, Bool.true_and]
    by_cases h1 : 1 ≤ s.size <;> by_cases h2 : s.size ≤ 10 <;> simp [h1, h2] <;> omega

theorem impl_labelOk_t (s : ByteArray) (hs : s.size ≤ 900000000) : impl_labelOk_T s = some (labelOk s) := by
  refine impl_labelOk_of (s.size + 1) s ?_
  unfold impl_labelOk_R
  have hlen := bytes_len s
  have hloop := lp_list (P := Tryz.prog) (cfg := cfg) (T := RN) (n := s.size + 1) (d := 5) (f := 164) (r := 2) (na := 0) s.data.toList
    (fun i b (_ : Unit) => if labByte b (decide (i = 0) || decide (i + 1 = s.size)) = true then (.inl () : Unit ⊕ Unit) else .inr ())
    (fun i _ => impl_labelOk_S2 s false s.size i) (fun _ => (.ext 0, impl_labelOk_O2 s false)) (fun _ => (.ret, impl_labelOk_O2 s false)) (fun _ _ => True)
    (fun _ _ => by rw [impl_labelOk_round2, hlen, lt_self]; rfl) (fun _ => rfl) (fun _ => rfl)
    (fun i b _ hx hi _ => by
      rw [hlen] at hi
      rw [impl_labelOk_round2, lt_t hi, byteAt_nat (bytes_get hx), wrap_succ (by omega), wrap_id (by omega) (by omega)]
      simp only [br_if, qb_s, decide_eq_true_eq, beq_iff_eq, bne_iff_ne, ne_eq, if_true]
      by_cases hb : labByte b (decide (i = 0) || decide (i + 1 = s.size)) = true
      · simp only [hb, if_true]
        simp [labByte] at hb
        repeat' split
        all_goals first | rfl | (exfalso; omega)
      · simp only [hb, if_false, Bool.false_eq_true]
        simp [labByte] at hb
        repeat' split
        all_goals first | rfl | (exfalso; omega))
    (fun _ _ _ _ _ _ _ _ => trivial) () (s.size + 1) trivial (by omega)
  rw [lab_fold] at hloop
  unfold labelOk
  cases hc : labFrom s.size 0 s.data.toList with
  | false => rw [hc] at hloop; exact (qb_run (impl_labelOk_L2_of hloop)).trans rfl
  | true =>
    rw [hc] at hloop
    refine (qb_run (impl_labelOk_L2_of hloop)).trans ?_
    simp only [isRetE_e, isExt_e, br_t, br_f, impl_in_t, qb_s, Bool.true_and]
    by_cases h1 : 1 ≤ s.size <;> by_cases h2 : s.size ≤ 10 <;> simp [h1, h2] <;> omega

theorem spec_l5Labels_t (s : ByteArray) (k : Int) (hs : s.size ≤ 900000000) : spec_l5Labels_T s k = some (labelsOk s k) := by
  have hn := labels_length s
  refine spec_l5Labels_of ((labels s).length + 1) s k ?_
  unfold spec_l5Labels_R
  rw [spec_Labels_t s hs, qb_s]
  refine (qb_run (spec_l5Labels_L3_if (lp_all (labels s) labelOk (fun i => spec_l5Labels_S3 s k false false (labels s) i) (.ext 0, spec_l5Labels_O3 s k false false (labels s)) (.ret, spec_l5Labels_O3 s k false false (labels s))
    (by rw [spec_l5Labels_round3, lt_self]; rfl) rfl rfl
    (fun i x hx hi => by
      have hm := List.mem_of_getElem? hx
      rw [spec_l5Labels_round3, lt_t hi, idx_nat hx]
      simp only [br_t, qb_s, spec_l5Label_t x (by have := labels_size hm; omega)]
      rw [wrap_succ (by omega)]
      cases labelOk x <;> rfl)
    ((labels s).length + 1) (by omega)))).trans ?_
  unfold labelsOk
  cases (labels s).all labelOk with
  | false => rfl
  | true =>
    show (br (decide (((labels s).length : Int) ≥ k)) (some (decide ((s.size : Int) ≤ 60))) (some false) : Option Bool) = _
    by_cases h1 : k ≤ (labels s).length <;> by_cases h2 : s.size ≤ 60 <;> simp [br, h1, h2] <;> omega

theorem IndexFunc_labelsOk_1_t (a : List ByteArray)  (hl : a.length < 4611686018427387904) (ha : ∀ x ∈ a, x.size ≤ 900000000) : slices_IndexFunc_string_string_T a (.c (.fn 163 [])) = some (idxOf (fun x => !labelOk x) a) := by
  refine IndexFunc_labelsOk_1_of (a.length + 1) a  ?_
  unfold IndexFunc_labelsOk_1_R
  have hloop := lp_at (P := Tryz.prog) (cfg := cfg) (T := RN) (n := a.length + 1) (d := 5) (f := 176) (r := 2) (na := 0) a (fun x => !labelOk x) (fun i => IndexFunc_labelsOk_1_S2 false a  0 a.length i) (.ext 0, IndexFunc_labelsOk_1_O2 0) (fun i => (.ret, IndexFunc_labelsOk_1_O2 i))
    (by rw [IndexFunc_labelsOk_1_round2, lt_self]; rfl) rfl (fun _ => rfl)
    (fun i x hx hi => by
      have hm := List.mem_of_getElem? hx
      rw [IndexFunc_labelsOk_1_round2, lt_t hi, idx_nat hx]
      simp only [br_t, qb_s, impl_labelOk_t x (ha x hm)]
      rw [wrap_succ (by omega)]
      cases labelOk x <;> rfl) (a.length + 1) (by omega)
  unfold idxOf
  cases h : a.findIdx? (fun x => !labelOk x) with
  | none => rw [h] at hloop; exact (qb_run (IndexFunc_labelsOk_1_L2_of hloop)).trans rfl
  | some i => rw [h] at hloop; exact (qb_run (IndexFunc_labelsOk_1_L2_of hloop)).trans rfl

theorem ContainsFunc_labelsOk_1_t (a : List ByteArray)  (hl : a.length < 4611686018427387904) (ha : ∀ x ∈ a, x.size ≤ 900000000) : slices_ContainsFunc_string_string_T a (.c (.fn 163 [])) = some (a.any (fun x => !labelOk x)) := by
  refine ContainsFunc_labelsOk_1_of 0 a  ?_
  unfold ContainsFunc_labelsOk_1_R
  rw [IndexFunc_labelsOk_1_t a  hl ha, qb_s, idxOf_ge]


theorem impl_labelsOk_t (s : ByteArray) (k : Int) (hs : s.size ≤ 900000000) : impl_labelsOk_T s k = some (labelsOk s k) := by
  have hn := labels_length s
  refine impl_labelsOk_of 0 s k ?_
  unfold impl_labelsOk_R
  have hany : ((labels s).any fun x => !labelOk x) = !(labels s).all labelOk := by rw [List.all_eq_not_any_not]; simp
  rw [impl_Labels_t s hs, qb_s, ContainsFunc_labelsOk_1_t (labels s) (by omega) (fun x hx => by have := labels_size hx; omega)]
  simp only [qb_s, hany]
  unfold labelsOk
  by_cases h1 : k ≤ (labels s).length
  · by_cases h2 : s.size ≤ 60
    · rw [show decide ((s.size : Int) ≤ 60) = true by simp; omega]
      cases (labels s).all labelOk <;> simp [br, h1, h2]
    · rw [show decide ((s.size : Int) ≤ 60) = false by simp; omega]
      simp [br, h2]
  · by_cases h2 : s.size ≤ 60
    · rw [show decide ((s.size : Int) ≤ 60) = true by simp; omega]
      simp [br, h1]
    · rw [show decide ((s.size : Int) ≤ 60) = false by simp; omega]
      simp [br, h2]

theorem spec_HostOk_t (s : ByteArray) (hs : s.size ≤ 900000000) : spec_HostOk_T s = some (hostOk s) := by
  refine spec_HostOk_of 0 s ?_
  unfold spec_HostOk_R
  exact (qb_run (spec_l5Labels_t s 2 hs)).trans rfl

theorem impl_HostOk_t (s : ByteArray) (hs : s.size ≤ 900000000) : impl_HostOk_T s = some (hostOk s) := by
  refine impl_HostOk_of 0 s ?_
  unfold impl_HostOk_R
  exact (qb_run (impl_labelsOk_t s 2 hs)).trans rfl

end Go.Proofs.YtgegmojoakkohaaGreatDoor
