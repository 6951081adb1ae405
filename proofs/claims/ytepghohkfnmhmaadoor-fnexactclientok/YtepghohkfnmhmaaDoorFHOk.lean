/-
  Hosts that are right.
-/
import Derived.Test.YtepghohkfnmhmaaDoorFIn
import Derived.Test.YtepghohkfnmhmaaDoorVmHost
import Derived.Test.YtepghohkfnmhmaaDoorVmExt2
namespace Go.Proofs.YtepghohkfnmhmaaDoor
open Go.Vm Go.Proofs
set_option linter.unusedVariables false
set_option linter.unusedSimpArgs false

theorem spec_Labels_rn (s : ByteArray) (hs : s.size ≤ 900000000) : RN 114 [.str s] [] = some (.c (.row (.ret 0 0) .str), [], [.row true .str (labels s)]) := by
  refine rn_of_resid (n := s.size + 2) ?_
  rw [spec_Labels_res]
  have hlen := bytes_len s
  have hL : (s.data.toList.map some ++ [none]).length = s.size + 1 := by simp
  have hloop := lp_list (P := Tryd.prog) (cfg := cfg) (T := RN) (n := s.size + 2) (d := 5) (f := 114) (r := 4) (na := 0) (s.data.toList.map some ++ [none])
    scanStep
    (fun i a => ⟨frOf [(0, .str s), (3, .c (.row (.own 3) .str)), (4, .int ((i - a.2.length : Nat) : Int)), (5, .int i)], hpIds [(.own 3, .row true .str a.1)]⟩)
    (fun a => (.ext 0, ⟨frOf [(3, .c (.row (.own 3) .str))], hpIds [(.own 3, .row true .str a.1)]⟩)) (fun _ => (.ret, ⟨frOf [], hpIds []⟩)) (fun i a => i ≤ s.size → ScanInv s.data.toList i a)
    (fun a _ => by
      rw [spec_Labels_round4, hL, show decide (((s.size + 1 : Nat) : Int) ≤ (s.size : Int)) = false by simp; omega]
      rfl) (fun _ => rfl) (fun _ => rfl)
    (fun i x a hx hi hinv => by
      rw [hL] at hi
      have hI := hinv (by omega)
      have h1 := hI.1
      have h2 := hI.2.1
      have hex := extract_list (s := s) (f := i - a.2.length) (i := i) (l := a.2) (by omega) hI.2.2
      have happ : Nat.ble (a.1.length + 1) appMax = true := by rw [Nat.ble_eq, appMax]; omega
      rw [spec_Labels_round4, show decide ((i : Int) ≤ (s.size : Int)) = true by simp; omega, bnds_nat (n := s.size) (f := i - a.2.length) (i := i) (by omega) (by omega), wrap_succ (by omega)]
      simp only [br, qb_s, hex, List.length_cons, List.length_nil, Nat.zero_add, happ]
      by_cases he : i = s.size
      · have hxn : x = none := by
          rw [List.getElem?_append_right (by simp; omega)] at hx
          simp [he] at hx
          exact hx.symm
        subst hxn
        rw [show ((i : Int) == (s.size : Int)) = true by simp [he]]
        simp [scanStep]
      · obtain ⟨b, hb, rfl⟩ : ∃ b, s.data.toList[i]? = some b ∧ x = some b := by
          rw [List.getElem?_append_left (by simp; omega), List.getElem?_map] at hx
          cases hb : s.data.toList[i]? with
          | none => rw [hb] at hx; cases hx
          | some b => rw [hb] at hx; exact ⟨b, rfl, by simpa using hx.symm⟩
        rw [show ((i : Int) == (s.size : Int)) = false by simp; omega, byteAt_nat (bytes_get hb)]
        simp only [qb_s]
        by_cases h46 : b = 46
        · subst h46
          simp [scanStep]
        · have : ((b.toNat : Int) == 46) = false := by
            simp only [beq_eq_false_iff_ne, ne_eq]
            intro e
            exact h46 (UInt8.toNat_inj.1 (by have : (46 : UInt8).toNat = 46 := rfl; omega))
          rw [this]
          simp only [scanStep, h46, if_false]
          rw [show i + 1 - (a.2 ++ [b]).length = i - a.2.length by simp])
    (fun i x a a' hx hi hinv hst hle => by
      rw [hL] at hi
      have hI := hinv (by omega)
      obtain ⟨b, hb, rfl⟩ : ∃ b, s.data.toList[i]? = some b ∧ x = some b := by
        rw [List.getElem?_append_left (by simp; omega), List.getElem?_map] at hx
        cases hb : s.data.toList[i]? with
        | none => rw [hb] at hx; cases hx
        | some b => rw [hb] at hx; exact ⟨b, rfl, by simpa using hx.symm⟩
      unfold scanStep at hst
      simp only at hst
      split at hst
      · cases hst; exact hI.cut _
      · cases hst; exact hI.go hb)
    ([], []) (s.size + 2) (fun _ => ⟨by simp, by simp, by simp⟩) (by rw [hL]; omega)
  rw [scan_labels] at hloop
  refine (qb_run hloop).trans ?_
  rfl

theorem impl_Labels_rn (s : ByteArray) (hs : s.size ≤ 900000000) : RN 118 [.str s] [] = some (.c (.f (.sl false .str (labels s))), [], []) := by
  have h : RN 52 [.str s, .str ⟨#[46]⟩] [] = some (.c (.f (.sl false .str (splitB s ⟨#[46]⟩))), [], []) := by
    refine rn_ext (g := extSplit) rfl ?_
    unfold extSplit
    simp only
    rw [if_pos ⟨by omega, by decide⟩]
  refine rn_of_resid (n := 0) ?_
  have h2 : splitB s ⟨#[46]⟩ = labels s := splitB_one 46 s
  rw [h2] at h
  rw [impl_Labels_res, pres_f h]
  rfl

theorem spec_l5Label_rn (s : ByteArray) (hs : s.size ≤ 900000000) : RN 115 [.str s] [] = some (.bool (labelOk s), [], []) := by
  refine rn_of_resid (n := s.size + 1) ?_
  rw [spec_l5Label_res]
  have hlen := bytes_len s
  have hloop := lp_list (P := Tryd.prog) (cfg := cfg) (T := RN) (n := s.size + 1) (d := 5) (f := 115) (r := 2) (na := 0) s.data.toList
    (fun i b (_ : Unit) => if labByte b (decide (i = 0) || decide (i + 1 = s.size)) = true then (.inl () : Unit ⊕ Unit) else .inr ())
    (fun i _ => ⟨frOf [(0, .str s), (2, .bool false), (3, .int i)], hpIds []⟩)
    (fun _ => (.ext 0, ⟨frOf [(0, .str s), (2, .bool false)], hpIds []⟩)) (fun _ => (.ret, ⟨frOf [(0, .str s), (2, .bool false)], hpIds []⟩)) (fun _ _ => True)
    (fun _ _ => by rw [spec_l5Label_round2, hlen, lt_self]; rfl) (fun _ => rfl) (fun _ => rfl)
    (fun i b _ hx hi _ => by
      rw [hlen] at hi
      rw [spec_l5Label_round2, lt_t hi, byteAt_nat (bytes_get hx), wrap_succ (by omega), wrap_id (by omega) (by omega)]
      simp only [br_if, qb_s, decide_eq_true_eq, beq_iff_eq, Bool.not_eq_true', decide_eq_false_iff_not, if_true]
      by_cases hb : labByte b (decide (i = 0) || decide (i + 1 = s.size)) = true
      · simp only [hb, if_true]
        simp [labByte] at hb
        repeat' split
        all_goals first | rfl | (exfalso; omega)
      · simp only [hb, if_false, Bool.false_eq_true]
        simp [labByte] at hb
        repeat' split
        all_goals first | rfl | (exfalso; omega))
    (fun _ _ _ _ _ _ _ _ => trivial) () (s.size + 1) trivial (by omega)
  rw [lab_fold] at hloop
  refine (qb_run hloop).trans ?_
  unfold labelOk
  cases labFrom s.size 0 s.data.toList with
  | false => rfl
  | true =>
    show (qb (pres RN 31 [.int s.size, .int 1, .int 10]) fun v => qb (qb (unC v) fun y => fBool y) fun b => some (V.bool b, [], [])) = _
    rw [spec_l1In_p]
    simp only [qb_s, unC, fBool, Bool.true_and]
    by_cases h1 : 1 ≤ s.size <;> by_cases h2 : s.size ≤ 10 <;> simp [h1, h2] <;> omega

theorem impl_labelOk_rn (s : ByteArray) (hs : s.size ≤ 900000000) : RN 121 [.str s] [] = some (.bool (labelOk s), [], []) := by
  refine rn_of_resid (n := s.size + 1) ?_
  rw [impl_labelOk_res]
  have hlen := bytes_len s
  have hloop := lp_list (P := Tryd.prog) (cfg := cfg) (T := RN) (n := s.size + 1) (d := 5) (f := 121) (r := 2) (na := 0) s.data.toList
    (fun i b (_ : Unit) => if labByte b (decide (i = 0) || decide (i + 1 = s.size)) = true then (.inl () : Unit ⊕ Unit) else .inr ())
    (fun i _ => ⟨frOf [(0, .str s), (2, .bool false), (6, .int s.size), (7, .int i)], hpIds []⟩)
    (fun _ => (.ext 0, ⟨frOf [(0, .str s), (2, .bool false)], hpIds []⟩)) (fun _ => (.ret, ⟨frOf [(0, .str s), (2, .bool false)], hpIds []⟩)) (fun _ _ => True)
    (fun _ _ => by rw [impl_labelOk_round2, hlen, lt_self]; rfl) (fun _ => rfl) (fun _ => rfl)
    (fun i b _ hx hi _ => by
      rw [hlen] at hi
      rw [impl_labelOk_round2, lt_t hi, byteAt_nat (bytes_get hx), wrap_succ (by omega), wrap_id (by omega) (by omega)]
      simp only [br_if, qb_s, decide_eq_true_eq, beq_iff_eq, bne_iff_ne, ne_eq, if_true]
      by_cases hb : labByte b (decide (i = 0) || decide (i + 1 = s.size)) = true
      · simp only [hb, if_true]
        simp [labByte] at hb
        repeat' split
        all_goals first | rfl | (exfalso; omega)
      · simp only [hb, if_false, Bool.false_eq_true]
        simp [labByte] at hb
        repeat' split
        all_goals first | rfl | (exfalso; omega))
    (fun _ _ _ _ _ _ _ _ => trivial) () (s.size + 1) trivial (by omega)
  rw [lab_fold] at hloop
  refine (qb_run hloop).trans ?_
  unfold labelOk
  cases labFrom s.size 0 s.data.toList with
  | false => rfl
  | true =>
    show (qb (pres RN 36 [.int s.size, .int 1, .int 10]) fun v => qb (qb (unC v) fun y => fBool y) fun b => some (V.bool b, [], [])) = _
    rw [impl_in_p]
    simp only [qb_s, unC, fBool, Bool.true_and]
    by_cases h1 : 1 ≤ s.size <;> by_cases h2 : s.size ≤ 10 <;> simp [h1, h2] <;> omega

theorem spec_l5Labels_rn (s : ByteArray) (k : Int) (hs : s.size ≤ 900000000) : RN 80 [.str s, .int k] [] = some (.bool (labelsOk s k), [], []) := by
  have hn := labels_length s
  refine rn_of_resid (n := (labels s).length + 1) ?_
  rw [spec_l5Labels_res, pres_row (spec_Labels_rn s hs)]
  simp only [qb_s, unC_s, fSl_s]
  have hloop := lp_any (P := Tryd.prog) (cfg := cfg) (T := RN) (n := (labels s).length + 1) (d := 5) (f := 80) (r := 3) (na := 0) (labels s) (fun x => !labelOk x)
    (fun i => ⟨frOf [(0, .str s), (1, .int k), (4, .bool false), (5, .sl false .str (labels s)), (6, .int i)], hpIds []⟩)
    (.ext 0, ⟨frOf [(0, .str s), (1, .int k), (4, .bool false), (5, .sl false .str (labels s))], hpIds []⟩) (.ret, ⟨frOf [(0, .str s), (1, .int k), (4, .bool false), (5, .sl false .str (labels s))], hpIds []⟩)
    (by rw [spec_l5Labels_round3, lt_self]; rfl) rfl rfl
    (fun i x hx hi => by
      have hm := List.mem_of_getElem? hx
      have h := pres_f (spec_l5Label_rn x (by have := labels_size hm; omega))
      rw [spec_l5Labels_round3, lt_t hi, idx_nat hx]
      simp only [br, qb, h, unC, fBool]
      rw [wrap_succ (by omega)]
      cases labelOk x <;> rfl)
    ((labels s).length + 1) (by omega)
  have hany : ((labels s).any fun x => !labelOk x) = !(labels s).all labelOk := by rw [List.all_eq_not_any_not]; simp
  rw [hany] at hloop
  have hfin : ∀ (kk : Ex × St → Option (V × List Vm.Obj × List Vm.Obj)), qb (lp Tryd.prog cfg RN ((labels s).length + 1) 5 80 3 0 ((labels s).length + 1)
    (St.mk (frOf [(0, .str s), (1, .int k), (4, .bool false), (5, .sl false .str (labels s)), (6, .int 0)]) (hpIds []))) kk = kk _ := fun kk => qb_run hloop
  rw [hfin]
  unfold labelsOk
  cases (labels s).all labelOk with
  | false => rfl
  | true =>
    show (br (decide (((labels s).length : Int) ≥ k)) (some (V.bool (decide ((s.size : Int) ≤ 60)), [], [])) (some (V.bool false, [], [])) : Option (V × List Vm.Obj × List Vm.Obj)) = _
    by_cases h1 : k ≤ (labels s).length <;> by_cases h2 : s.size ≤ 60 <;> simp [br, h1, h2] <;> omega

theorem IndexFunc_str (a : List ByteArray) (t0 : Bool) (hl : a.length < 4611686018427387904) (ha : ∀ x ∈ a, x.size ≤ 900000000) :
    RN 144 [.sl t0 .str a, .c (.fn 120 [])] [] = some (.int (idxOf (fun x => !labelOk x) a), [], []) := by
  refine rn_of_resid (n := a.length + 1) ?_
  rw [slices_IndexFunc_string_string_res]
  have hloop := lp_at (P := Tryd.prog) (cfg := cfg) (T := RN) (n := a.length + 1) (d := 5) (f := 144) (r := 2) (na := 0) a (fun x => !labelOk x)
    (fun i => ⟨frOf [(0, .sl t0 .str a), (1, .c (.fn 120 [])), (4, .int 0), (7, .int a.length), (8, .int i)], hpIds []⟩)
    (.ext 0, ⟨frOf [(4, .int 0)], hpIds []⟩) (fun i => (.ret, ⟨frOf [(4, .int i)], hpIds []⟩))
    (by rw [slices_IndexFunc_string_string_round2, lt_self]; rfl) rfl (fun _ => rfl)
    (fun i x hx hi => by
      have h := pres_f (impl_labelOk_rn x (ha x (List.mem_of_getElem? hx)))
      rw [slices_IndexFunc_string_string_round2, lt_t hi, idx_nat hx]
      simp only [br, qb, h, unC, fBool]
      rw [wrap_succ (by omega)]
      cases labelOk x <;> rfl)
    (a.length + 1) (by omega)
  refine (qb_run hloop).trans ?_
  unfold idxOf
  cases a.findIdx? (fun x => !labelOk x) <;> rfl

theorem impl_labelsOk_rn (s : ByteArray) (k : Int) (hs : s.size ≤ 900000000) : RN 83 [.str s, .int k] [] = some (.bool (labelsOk s k), [], []) := by
  have hn := labels_length s
  have hC : RN 119 [.sl false .str (labels s), .c (.fn 120 [])] [] = some (.bool ((labels s).any fun x => !labelOk x), [], []) := by
    refine rn_of_resid (n := 0) ?_
    rw [slices_ContainsFunc_string_string_res, pres_f (IndexFunc_str (labels s) false (by omega) fun x hx => by have := labels_size hx; omega)]
    simp only [qb, unC, fInt, idxOf_ge]
  refine rn_of_resid (n := 0) ?_
  rw [impl_labelsOk_res, pres_f (impl_Labels_rn s hs)]
  have hany : ((labels s).any fun x => !labelOk x) = !(labels s).all labelOk := by rw [List.all_eq_not_any_not]; simp
  simp only [qb_s, unC_s, fSl_s, pres_f hC, fBool_s, hany]
  unfold labelsOk
  by_cases h1 : k ≤ (labels s).length
  · by_cases h2 : s.size ≤ 60
    · rw [show decide ((s.size : Int) ≤ 60) = true by simp; omega]
      cases (labels s).all labelOk <;> simp [br, h1, h2]
    · rw [show decide ((s.size : Int) ≤ 60) = false by simp; omega]
      simp [br, h2]
  · by_cases h2 : s.size ≤ 60
    · rw [show decide ((s.size : Int) ≤ 60) = true by simp; omega]
      simp [br, h1]
    · rw [show decide ((s.size : Int) ≤ 60) = false by simp; omega]
      simp [br, h2]

theorem spec_HostOk_p (s : ByteArray) (hs : s.size ≤ 900000000) : pres RN 32 [.str s] = some (.bool (hostOk s)) := by
  refine pres_f (rn_of_resid (n := 0) ?_)
  rw [spec_HostOk_res, pres_f (spec_l5Labels_rn s 2 hs)]
  rfl

theorem impl_HostOk_p (s : ByteArray) (hs : s.size ≤ 900000000) : pres RN 37 [.str s] = some (.bool (hostOk s)) := by
  refine pres_f (rn_of_resid (n := 0) ?_)
  rw [impl_HostOk_res, pres_f (impl_labelsOk_rn s 2 hs)]
  rfl

end Go.Proofs.YtepghohkfnmhmaaDoor
