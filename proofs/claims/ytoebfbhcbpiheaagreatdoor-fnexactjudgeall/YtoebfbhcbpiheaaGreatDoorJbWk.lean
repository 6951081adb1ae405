/-
  Policies, caches, hosts, letters, worlds that are right.
-/
import Derived.Test.YtoebfbhcbpiheaaGreatDoorJbCl
import Derived.Test.YtoebfbhcbpiheaaGreatDoorVm6
namespace Go.Proofs.YtoebfbhcbpiheaaGreatDoor
open Go.Vm
set_option linter.unusedVariables false
set_option linter.unusedSimpArgs false

theorem bnds_to {n k : Nat} (h : k ≤ n) : bnds n none (some (k : Int)) = some (0, k) := by
  unfold bnds
  simp only [Option.getD_none, Option.getD_some]
  rw [if_pos (by omega)]
  rfl

theorem bnds_from {n k : Nat} (h : k ≤ n) : bnds n (some (k : Int)) none = some (k, n) := by
  unfold bnds
  simp only [Option.getD_none, Option.getD_some]
  rw [if_pos (by omega)]
  simp

/-! ### Domains, letters -/

theorem spec_l6Domain_t (s : ByteArray) (hs : s.size ≤ 900000000) : spec_l6Domain_T s = some (domOk s) := by
  refine spec_l6Domain_of (s.size + 1) s ?_
  unfold spec_l6Domain_R
  have hlen := bytes_len s
  refine (qb_run (spec_l6Domain_L2_if (lp_all s.data.toList isLow (fun i => spec_l6Domain_S2 s false i) (.ext 0, spec_l6Domain_O2 s false) (.ret, spec_l6Domain_O2 s false)
    (by rw [spec_l6Domain_round2, hlen, lt_self]; rfl) rfl rfl
    (fun i b hx hi => by
      rw [hlen] at hi
      rw [spec_l6Domain_round2, lt_t hi, byteAt_nat (bytes_get hx), wrap_succ (by omega)]
      simp only [br_t, qb_s]
      unfold isLow
      by_cases h1 : b.toNat < 97
      · have : ((b.toNat : Int) < 97) := by omega
        simp [br, h1, this]
      · have h3 : ¬ ((b.toNat : Int) < 97) := by omega
        by_cases h2 : b.toNat > 122
        · have : ((b.toNat : Int) > 122) := by omega
          simp [br, h1, h2, h3, this]
        · have h4 : ¬ ((b.toNat : Int) > 122) := by omega
          simp [br, h1, h2, h3, h4]) (s.size + 1) (by omega)))).trans ?_
  unfold domOk
  cases s.data.toList.all isLow with
  | false => rfl
  | true =>
    simp only [if_true, isRetE_e, isExt_e, br_t, br_f, spec_l1In_t, qb_s, Bool.true_and]
    by_cases h1 : 1 ≤ s.size <;> by_cases h2 : s.size ≤ 10 <;> simp [h1, h2] <;> omega

theorem impl_domainOk_t (s : ByteArray) (hs : s.size ≤ 900000000) : impl_domainOk_T s = some (domOk s) := by
  refine impl_domainOk_of (s.size + 1) s ?_
  unfold impl_domainOk_R
  have hlen := bytes_len s
  refine (qb_run (impl_domainOk_L2_if (lp_all s.data.toList isLow (fun i => impl_domainOk_S2 s false s.size i) (.ext 0, impl_domainOk_O2 s false) (.ret, impl_domainOk_O2 s false)
    (by rw [impl_domainOk_round2, hlen, lt_self]; rfl) rfl rfl
    (fun i b hx hi => by
      rw [hlen] at hi
      rw [impl_domainOk_round2, lt_t hi, byteAt_nat (bytes_get hx), wrap_succ (by omega)]
      simp only [br_t, qb_s]
      unfold isLow
      by_cases h1 : b.toNat < 97
      · have : ((b.toNat : Int) < 97) := by omega
        simp [br, h1, this]
      · have h3 : ¬ ((b.toNat : Int) < 97) := by omega
        by_cases h2 : b.toNat > 122
        · have : ((b.toNat : Int) > 122) := by omega
          simp [br, h1, h2, h3, this]
        · have h4 : ¬ ((b.toNat : Int) > 122) := by omega
          simp [br, h1, h2, h3, h4]) (s.size + 1) (by omega)))).trans ?_
  unfold domOk
  cases s.data.toList.all isLow with
  | false => rfl
  | true =>
    simp only [if_true, isRetE_e, isExt_e, br_t, br_f, impl_in_t, qb_s, Bool.true_and]
    by_cases h1 : 1 ≤ s.size <;> by_cases h2 : s.size ≤ 10 <;> simp [h1, h2] <;> omega

theorem spec_LetterOk_t (l : Letter) (hs : l.domain.size ≤ 900000000) : spec_LetterOk_T l = some (letterOk l) := by
  refine spec_LetterOk_of 0 l ?_
  unfold spec_LetterOk_R
  simp only [spec_l6Domain_t l.domain hs, spec_l1In_t, qb_s]
  unfold letterOk isAtom isTime
  cases domOk l.domain <;> simp [br_if]
  by_cases h1 : 0 ≤ l.body <;> by_cases h2 : l.body ≤ 1000000 <;> by_cases h3 : 1 ≤ l.state <;> by_cases h4 : l.state ≤ 3 <;> by_cases h5 : 0 ≤ l.tries <;> by_cases h6 : l.tries ≤ 4 <;> simp [h1, h2, h3, h4, h5, h6]

theorem impl_LetterOk_t (l : Letter) (hs : l.domain.size ≤ 900000000) : impl_LetterOk_T l = some (letterOk l) := by
  refine impl_LetterOk_of 0 l ?_
  unfold impl_LetterOk_R
  simp only [impl_domainOk_t l.domain hs, impl_in_t, impl_isAtom_t, impl_isTime_t, qb_s]
  unfold letterOk
  cases domOk l.domain <;> simp [br_if]
  by_cases h1 : isAtom l.body = true <;> by_cases h3 : 1 ≤ l.state <;> by_cases h4 : l.state ≤ 3 <;> by_cases h5 : 0 ≤ l.tries <;> by_cases h6 : l.tries ≤ 4 <;> simp [h1, h3, h4, h5, h6]

/-! ### Patterns, policies, caches -/

theorem spec_l5Star_t (s : ByteArray) : spec_l5Star_T s = some (decide (2 < s.size) && star2 s) := by
  refine spec_l5Star_of 0 s ?_
  unfold spec_l5Star_R
  by_cases h : 2 < s.size
  · rw [show decide ((s.size : Int) > 2) = true by simp; omega, br_t]
    have hb : bnds s.size none (some 2) = some (0, 2) := bnds_to (k := 2) (by omega)
    rw [hb, qb_s, beq_bytes]
    unfold star2
    simp [h]
    omega
  · rw [show decide ((s.size : Int) > 2) = false by simp; omega, br_f]
    simp [h]

theorem spec_PatternOk_t (s : ByteArray) (hs : s.size ≤ 900000000) : spec_PatternOk_T s = some (patOk s) := by
  refine spec_PatternOk_of 0 s ?_
  unfold spec_PatternOk_R
  rw [spec_HostOk_t s hs, qb_s]
  unfold patOk
  cases hostOk s with
  | true => rfl
  | false =>
    rw [br_f, spec_l5Star_t, qb_s, Bool.false_or]
    by_cases h : 2 < s.size
    · rw [decide_eq_true h, Bool.true_and]
      cases star2 s with
      | false => rfl
      | true =>
        have hb : bnds s.size (some 2) none = some (2, s.size) := bnds_from (k := 2) (by omega)
        rw [br_t, hb, qb_s]
        exact (qb_run (spec_l5Labels_t (s.extract 2 s.size) 1 (by rw [ByteArray.size_extract]; omega))).trans rfl
    · rw [decide_eq_false h, Bool.false_and, br_f]
      cases h2 : star2 s with
      | false => rfl
      | true =>
        have h3 : s.size = 2 := by
          unfold star2 at h2
          simp only [Bool.and_eq_true, decide_eq_true_eq] at h2
          omega
        rw [star2_two h3]
        rfl

theorem CutPrefix_t (s p : ByteArray) : strings_CutPrefix_T s p = some (if p.size ≤ s.size ∧ s.extract 0 p.size = p then (s.extract p.size s.size, true, ()) else (s, false, ())) := by
  have h1 : internal_stringslite_HasPrefix_T s p = some (decide (p.size ≤ s.size ∧ s.extract 0 p.size = p)) := by
    refine internal_stringslite_HasPrefix_of 0 s p ?_
    unfold internal_stringslite_HasPrefix_R
    by_cases h : p.size ≤ s.size
    · rw [show decide ((s.size : Int) ≥ (p.size : Int)) = true by simp; omega, br_t, bnds_to h, qb_s, beq_bytes]
      simp [h]
    · rw [show decide ((s.size : Int) ≥ (p.size : Int)) = false by simp; omega, br_f]
      simp [h]
  have h2 : internal_stringslite_CutPrefix_T s p = some (if p.size ≤ s.size ∧ s.extract 0 p.size = p then (s.extract p.size s.size, true, ()) else (s, false, ())) := by
    refine internal_stringslite_CutPrefix_of 0 s p ?_
    unfold internal_stringslite_CutPrefix_R
    rw [h1, qb_s]
    by_cases h : p.size ≤ s.size ∧ s.extract 0 p.size = p
    · rw [decide_eq_true h, if_pos h, Bool.not_true, br_f, bnds_from h.1, qb_s]
    · rw [decide_eq_false h, if_neg h]
      rfl
  refine strings_CutPrefix_of 0 s p ?_
  unfold strings_CutPrefix_R
  rw [h2, qb_s]

theorem CutStar_t (s : ByteArray) : strings_CutPrefix_T s ⟨#[42, 46]⟩ = some (if star2 s = true then (s.extract 2 s.size, true, ()) else (s, false, ())) := by
  rw [CutPrefix_t]
  have : star2 s = decide ((⟨#[42, 46]⟩ : ByteArray).size ≤ s.size ∧ s.extract 0 (⟨#[42, 46]⟩ : ByteArray).size = ⟨#[42, 46]⟩) := by
    unfold star2
    rw [Bool.decide_and]
    rfl
  by_cases h : ((⟨#[42, 46]⟩ : ByteArray).size ≤ s.size ∧ s.extract 0 (⟨#[42, 46]⟩ : ByteArray).size = ⟨#[42, 46]⟩)
  · rw [if_pos h, if_pos (by rw [this]; exact decide_eq_true h)]; rfl
  · rw [if_neg h, if_neg (by rw [this]; simpa using h)]

theorem impl_PatternOk_t (s : ByteArray) (hs : s.size ≤ 900000000) : impl_PatternOk_T s = some (patOk s) := by
  refine impl_PatternOk_of 0 s ?_
  unfold impl_PatternOk_R
  rw [CutStar_t, qb_s, patOk_impl]
  by_cases h : star2 s = true
  · simp only [h, if_true, br_t]
    exact (qb_run (impl_labelsOk_t (s.extract 2 s.size) 1 (by rw [ByteArray.size_extract]; omega))).trans rfl
  · simp only [h, if_false, br_f]
    exact (qb_run (impl_HostOk_t s hs)).trans rfl

theorem spec_PolicyOk_t (p : Policy) (hp : p.cost ≤ 900000000) : spec_PolicyOk_T p = some (policyOk p) := by
  have hc : p.cost = p.domain.size + (p.mx.length + sumC ByteArray.size p.mx) := rfl
  refine spec_PolicyOk_of (p.mx.length + 1) p ?_
  unfold spec_PolicyOk_R
  refine (qb_run (spec_PolicyOk_L2_if (lp_all p.mx patOk (fun i => spec_PolicyOk_S2 false i p) (.ext 0, spec_PolicyOk_O2 false p) (.ret, spec_PolicyOk_O2 false p)
    (by rw [spec_PolicyOk_round2, lt_self]; rfl) rfl rfl
    (fun i x hx hi => by
      have := sumC_mem ByteArray.size (List.mem_of_getElem? hx)
      rw [spec_PolicyOk_round2, lt_t hi, idx_nat hx]
      simp only [br_t, qb_s, spec_PatternOk_t x (by omega)]
      rw [wrap_succ (by omega)]
      cases patOk x <;> rfl) (p.mx.length + 1) (by omega)))).trans ?_
  unfold policyOk inR isTime
  cases p.mx.all patOk with
  | false => simp only [Bool.false_eq_true, if_false, isRetE_r, br_t, Bool.false_and, Bool.and_false]
  | true =>
    simp only [if_true, isRetE_e, isExt_e, br_t, br_f, spec_l6Domain_t p.domain (by omega), spec_l1In_t, qb_s, beq_int, Bool.true_and]
    generalize domOk p.domain = b1
    generalize (decide (0 ≤ p.mode) && decide (p.mode ≤ 2)) = b2
    generalize decide ((p.mx.length : Int) ≤ 5) = b3
    generalize decide (p.mode = 0) = b4
    generalize decide ((p.mx.length : Int) > 0) = b5
    cases b1 <;> cases b2 <;> cases b3 <;> cases b4 <;> cases b5 <;> rfl

theorem IndexFunc_PolicyOk_1_t (a : List ByteArray)  (hl : a.length < 4611686018427387904) (ha : ∀ x ∈ a, x.size ≤ 900000000) : slices_IndexFunc_string_string_T a (.c (.fn 210 [])) = some (idxOf (fun x => !patOk x) a) := by
  refine IndexFunc_PolicyOk_1_of (a.length + 1) a  ?_
  unfold IndexFunc_PolicyOk_1_R
  have hloop := lp_at (P := Tryz.prog) (cfg := cfg) (T := RN) (n := a.length + 1) (d := 5) (f := 237) (r := 2) (na := 0) a (fun x => !patOk x) (fun i => IndexFunc_PolicyOk_1_S2 false a  0 a.length i) (.ext 0, IndexFunc_PolicyOk_1_O2 0) (fun i => (.ret, IndexFunc_PolicyOk_1_O2 i))
    (by rw [IndexFunc_PolicyOk_1_round2, lt_self]; rfl) rfl (fun _ => rfl)
    (fun i x hx hi => by
      have hm := List.mem_of_getElem? hx
      rw [IndexFunc_PolicyOk_1_round2, lt_t hi, idx_nat hx]
      simp only [br_t, qb_s, impl_PatternOk_t x (ha x hm)]
      rw [wrap_succ (by omega)]
      cases patOk x <;> rfl) (a.length + 1) (by omega)
  unfold idxOf
  cases h : a.findIdx? (fun x => !patOk x) with
  | none => rw [h] at hloop; exact (qb_run (IndexFunc_PolicyOk_1_L2_of hloop)).trans rfl
  | some i => rw [h] at hloop; exact (qb_run (IndexFunc_PolicyOk_1_L2_of hloop)).trans rfl

theorem ContainsFunc_PolicyOk_1_t (a : List ByteArray)  (hl : a.length < 4611686018427387904) (ha : ∀ x ∈ a, x.size ≤ 900000000) : slices_ContainsFunc_string_string_T a (.c (.fn 210 [])) = some (a.any (fun x => !patOk x)) := by
  refine ContainsFunc_PolicyOk_1_of 0 a  ?_
  unfold ContainsFunc_PolicyOk_1_R
  rw [IndexFunc_PolicyOk_1_t a  hl ha, qb_s, idxOf_ge]


theorem impl_PolicyOk_t (p : Policy) (hp : p.cost ≤ 900000000) : impl_PolicyOk_T p = some (policyOk p) := by
  have hc : p.cost = p.domain.size + (p.mx.length + sumC ByteArray.size p.mx) := rfl
  have hany : (p.mx.any fun x => !patOk x) = !p.mx.all patOk := by rw [List.all_eq_not_any_not]; simp
  refine impl_PolicyOk_of 0 p ?_
  unfold impl_PolicyOk_R
  simp only [impl_domainOk_t p.domain (by omega), impl_in_t, impl_isTime_t, ContainsFunc_PolicyOk_1_t p.mx (by omega) (fun x hx => by have := sumC_mem ByteArray.size hx; omega), hany, qb_s, beq_int]
  unfold policyOk inR
  have h3 : decide ((p.mx.length : Int) > 5) = !decide ((p.mx.length : Int) ≤ 5) := by by_cases h : (p.mx.length : Int) ≤ 5 <;> simp [h] <;> omega
  rw [h3]
  generalize domOk p.domain = b1
  generalize (decide (0 ≤ p.mode) && decide (p.mode ≤ 2)) = b2
  generalize decide ((p.mx.length : Int) ≤ 5) = b3
  generalize decide (p.mode = 0) = b4
  generalize decide ((p.mx.length : Int) > 0) = b5
  generalize p.mx.all patOk = b6
  cases b1 <;> cases b2 <;> cases b3 <;> cases b4 <;> cases b5 <;> cases b6 <;> rfl

theorem spec_CacheOk_t (l : List Policy) (hl : l.length + sumC Policy.cost l ≤ 900000000) : spec_CacheOk_T l = some (cacheOk l) := by
  refine spec_CacheOk_of (l.length + 1) l ?_
  unfold spec_CacheOk_R
  refine (qb_run (spec_CacheOk_L2_if (lp_allPre l (fun pre x => policyOk x && (match pre.getLast? with | none => true | some y => Op.bytesLess y.domain.toList x.domain.toList)) (fun i => spec_CacheOk_S2 false l false i) (.ext 0, spec_CacheOk_O2 false l false) (.ret, spec_CacheOk_O2 false l false)
    (by rw [spec_CacheOk_round2, lt_self]; rfl) rfl rfl
    (fun i x hx hi => by
      have := sumC_mem Policy.cost (List.mem_of_getElem? hx)
      rw [spec_CacheOk_round2, lt_t hi, idx_nat hx]
      simp only [br_t, qb_s, spec_PolicyOk_t x (by omega)]
      rw [wrap_succ (by omega)]
      cases policyOk x with
      | false => simp [br]
      | true =>
        cases i with
        | zero => rfl
        | succ j =>
          obtain ⟨y, hy⟩ : ∃ y, l[j]? = some y := ⟨l[j]'(by omega), by simp⟩
          rw [show decide (((j + 1 : Nat) : Int) > 0) = true from decide_eq_true (by omega), wrap_id (by omega) (by omega), show (((j + 1 : Nat) : Int) - 1) = ((j : Nat) : Int) by omega, idx_nat hy, take_last hy]
          simp only [Bool.not_true, br_f, br_t, qb_s, Bool.true_and]
          cases Op.bytesLess y.domain.toList x.domain.toList <;> rfl) (l.length + 1) (by omega)))).trans ?_
  unfold cacheOk
  cases allPre _ [] l <;> simp [isRetE_r, isRetE_e, isExt_e, br_t, br_f]

theorem impl_CacheOk_t (l : List Policy) (hl : l.length + sumC Policy.cost l ≤ 900000000) : impl_CacheOk_T l = some (cacheOk l) := by
  refine impl_CacheOk_of (l.length + 1) l ?_
  unfold impl_CacheOk_R
  refine (qb_run (impl_CacheOk_L2_if (lp_allPre l (fun pre x => policyOk x && (match pre.getLast? with | none => true | some y => Op.bytesLess y.domain.toList x.domain.toList)) (fun i => impl_CacheOk_S2 false l false false l l.length i) (.ext 0, impl_CacheOk_O2 false l false) (.ret, impl_CacheOk_O2 false l false)
    (by rw [impl_CacheOk_round2, lt_self]; rfl) rfl rfl
    (fun i x hx hi => by
      have := sumC_mem Policy.cost (List.mem_of_getElem? hx)
      rw [impl_CacheOk_round2, lt_t hi, idx_nat hx]
      simp only [br_t, qb_s, impl_PolicyOk_t x (by omega)]
      rw [wrap_succ (by omega)]
      cases policyOk x with
      | false => simp [br]
      | true =>
        cases i with
        | zero => rfl
        | succ j =>
          obtain ⟨y, hy⟩ : ∃ y, l[j]? = some y := ⟨l[j]'(by omega), by simp⟩
          rw [show decide (((j + 1 : Nat) : Int) > 0) = true from decide_eq_true (by omega), wrap_id (by omega) (by omega), show (((j + 1 : Nat) : Int) - 1) = ((j : Nat) : Int) by omega, idx_nat hy, take_last hy]
          simp only [Bool.not_true, br_f, br_t, qb_s, Bool.true_and]
          cases Op.bytesLess y.domain.toList x.domain.toList <;> rfl) (l.length + 1) (by omega)))).trans ?_
  unfold cacheOk
  cases allPre _ [] l <;> simp [isRetE_r, isRetE_e, isExt_e, br_t, br_f]

/-! ### Hosts, what was told -/

theorem spec_l13Hosts_t (l : List Host) (hl : l.length + sumC Host.cost l ≤ 900000000) : spec_l13Hosts_T l = some (hostsOk l) := by
  refine spec_l13Hosts_of (l.length + 1) l ?_
  unfold spec_l13Hosts_R
  refine (qb_run (spec_l13Hosts_L2_if (lp_allPre l (fun pre h => hostOk h.name && inR h.key 0 999 && !(pre.any fun x => decide (x.name = h.name))) (fun i => spec_l13Hosts_S2 false l false i) (.ext 0, spec_l13Hosts_O2 false l false) (.ret, spec_l13Hosts_O2 false l false)
    (by rw [spec_l13Hosts_round2, lt_self]; rfl) rfl rfl
    (fun i x hx hi => by
      have hm := sumC_mem Host.cost (List.mem_of_getElem? hx)
      have hxc : x.name.size = Host.cost x := rfl
      have hlen : (l.take i).length = i := by rw [List.length_take]; omega
      have hin := spec_l13Hosts_L7_if (n := l.length + 1) (q := l.length + 1) (lp_any (l.take i) (fun y : Host => decide (y.name = x.name)) (fun k => spec_l13Hosts_S7 false l false i k) (.ext 2, spec_l13Hosts_O7 false l false i) (.ret, spec_l13Hosts_O7 false l false i)
        (by rw [spec_l13Hosts_round7, hlen, lt_self]; rfl) rfl rfl
        (fun k y hy hk => by
          rw [hlen] at hk
          have hy2 : l[k]? = some y := by rw [List.getElem?_take] at hy; simpa [hk] using hy
          rw [spec_l13Hosts_round7, lt_t hk, idx_nat hy2, idx_nat hx]
          simp only [br_t, qb_s, beq_bytes]
          rw [wrap_succ (by omega)]
          by_cases he : y.name = x.name <;> simp [he, br_t, br_f]) (l.length + 1) (by rw [hlen]; omega))
      have hin' : spec_l13Hosts_L7 (l.length + 1) (l.length + 1) false l false i 0 = _ := hin
      rw [spec_l13Hosts_round2, lt_t hi, idx_nat hx]
      simp only [br_t, qb_s, spec_HostOk_t x.name (by omega), spec_l1In_t, hin', inR]
      cases hostOk x.name with
      | false => simp [br]
      | true =>
        by_cases k1 : 0 ≤ x.key
        case neg => simp [br, k1]
        by_cases k2 : x.key ≤ 999
        case neg => simp [br, k2]
        by_cases k3 : ((l.take i).any fun y => decide (y.name = x.name)) = true
        · simp only [k1, k2, k3, decide_true, Bool.and_self, Bool.not_true, br_f, if_true, isRetE_r, br_t]
          rfl
        · simp only [k1, k2, k3, decide_true, Bool.and_self, Bool.not_true, br_f, if_false, isRetE_e, isExt_e, br_t, Bool.false_eq_true]
          rw [wrap_succ (by omega)]
          simp [k3]) (l.length + 1) (by omega)))).trans ?_
  unfold hostsOk
  cases allPre _ [] l <;> simp [isRetE_r, isRetE_e, isExt_e, br_t, br_f]

theorem IndexFunc_hostsOk_1_t (a : List Host) (c0 : Host) (hl : a.length < 4611686018427387904)  : slices_IndexFunc_impl_Host_impl_Host_T a (.c (.fn 164 [.f (.ep .host c0 0)])) = some (idxOf (fun x => decide (x.name = c0.name)) a) := by
  refine IndexFunc_hostsOk_1_of (a.length + 1) a c0 ?_
  unfold IndexFunc_hostsOk_1_R
  have hloop := lp_at (P := Tryz.prog) (cfg := cfg) (T := RN) (n := a.length + 1) (d := 5) (f := 212) (r := 2) (na := 0) a (fun x => decide (x.name = c0.name)) (fun i => IndexFunc_hostsOk_1_S2 false a c0 0 a.length i) (.ext 0, IndexFunc_hostsOk_1_O2 0) (fun i => (.ret, IndexFunc_hostsOk_1_O2 i))
    (by rw [IndexFunc_hostsOk_1_round2, lt_self]; rfl) rfl (fun _ => rfl)
    (fun i x hx hi => by
      have hm := List.mem_of_getElem? hx
      rw [IndexFunc_hostsOk_1_round2, lt_t hi, idx_nat hx]
      simp only [br_t, qb_s, beq_bytes]
      rw [wrap_succ (by omega)]
      by_cases he : x.name = c0.name <;> simp [he, br_t, br_f]) (a.length + 1) (by omega)
  unfold idxOf
  cases h : a.findIdx? (fun x => decide (x.name = c0.name)) with
  | none => rw [h] at hloop; exact (qb_run (IndexFunc_hostsOk_1_L2_of hloop)).trans rfl
  | some i => rw [h] at hloop; exact (qb_run (IndexFunc_hostsOk_1_L2_of hloop)).trans rfl

theorem ContainsFunc_hostsOk_1_t (a : List Host) (c0 : Host) (hl : a.length < 4611686018427387904)  : slices_ContainsFunc_impl_Host_impl_Host_T a (.c (.fn 164 [.f (.ep .host c0 0)])) = some (a.any (fun x => decide (x.name = c0.name))) := by
  refine ContainsFunc_hostsOk_1_of 0 a c0 ?_
  unfold ContainsFunc_hostsOk_1_R
  rw [IndexFunc_hostsOk_1_t a c0 hl , qb_s, idxOf_ge]


theorem impl_hostsOk_t (l : List Host) (hl : l.length + sumC Host.cost l ≤ 900000000) : impl_hostsOk_T l = some (hostsOk l) := by
  refine impl_hostsOk_of (l.length + 1) l ?_
  unfold impl_hostsOk_R
  refine (qb_run (impl_hostsOk_L2_if (lp_allPre l (fun pre h => hostOk h.name && inR h.key 0 999 && !(pre.any fun x => decide (x.name = h.name))) (fun i => impl_hostsOk_S2 false l false false l l.length i) (.ext 0, impl_hostsOk_O2 false l false) (.ret, impl_hostsOk_O2 false l false)
    (by rw [impl_hostsOk_round2, lt_self]; rfl) rfl rfl
    (fun i x hx hi => by
      have hm := sumC_mem Host.cost (List.mem_of_getElem? hx)
      have hxc : x.name.size = Host.cost x := rfl
      rw [impl_hostsOk_round2, lt_t hi, idx_nat hx, bnds_to (show i ≤ l.length by omega)]
      simp only [br_t, qb_s, impl_HostOk_t x.name (by omega), impl_in_t, List.drop_zero, ContainsFunc_hostsOk_1_t (l.take i) x (by rw [List.length_take]; omega), inR]
      rw [wrap_succ (by omega)]
      cases hostOk x.name with
      | false => simp [br]
      | true =>
        by_cases k1 : 0 ≤ x.key
        case neg => simp [br, k1]
        by_cases k2 : x.key ≤ 999
        case neg => simp [br, k2]
        by_cases k3 : ((l.take i).any fun y => decide (y.name = x.name)) = true <;> simp [br, k1, k2, k3]) (l.length + 1) (by omega)))).trans ?_
  unfold hostsOk
  cases allPre _ [] l <;> simp [isRetE_r, isRetE_e, isExt_e, br_t, br_f]

theorem impl_toldOk_t (l : List Int) (hl : l.length ≤ 900000000) : impl_toldOk_T l = some (toldOk l) := by
  refine impl_toldOk_of (l.length + 1) l ?_
  unfold impl_toldOk_R
  refine (qb_run (impl_toldOk_L2_if (lp_allPre l (fun pre n => isAtom n && (match pre.getLast? with | none => true | some y => decide (y < n))) (fun i => impl_toldOk_S2 false l false false l l.length i) (.ext 0, impl_toldOk_O2 false) (.ret, impl_toldOk_O2 false)
    (by rw [impl_toldOk_round2, lt_self]; rfl) rfl rfl
    (fun i x hx hi => by
      rw [impl_toldOk_round2, lt_t hi, idx_nat hx]
      simp only [br_t, qb_s, impl_isAtom_t]
      rw [wrap_succ (by omega)]
      cases isAtom x with
      | false => simp [br]
      | true =>
        cases i with
        | zero => rfl
        | succ j =>
          obtain ⟨y, hy⟩ : ∃ y, l[j]? = some y := ⟨l[j]'(by omega), by simp⟩
          rw [show decide (((j + 1 : Nat) : Int) > 0) = true from decide_eq_true (by omega), wrap_id (by omega) (by omega), show (((j + 1 : Nat) : Int) - 1) = ((j : Nat) : Int) by omega, idx_nat hy, take_last hy]
          simp only [Bool.not_true, br_f, br_t, qb_s, Bool.true_and]
          by_cases h : y < x
          · have : ¬ (y ≥ x) := by omega
            simp [h, this, br]
          · have : y ≥ x := by omega
            simp [h, this, br]) (l.length + 1) (by omega)))).trans ?_
  unfold toldOk
  cases allPre _ [] l <;> simp [isRetE_r, isRetE_e, isExt_e, br_t, br_f]

end Go.Proofs.YtoebfbhcbpiheaaGreatDoor
