/-
  Policies, caches, hosts, letters, worlds that are right.
-/
import Derived.Test.YtoebfbhcbpiheaaDoorNsCl
import Derived.Test.YtoebfbhcbpiheaaDoorVm6
namespace Go.Proofs.YtoebfbhcbpiheaaDoor
open Go.Vm
set_option linter.unusedVariables false
set_option linter.unusedSimpArgs false

theorem bnds_to {n k : Nat} (h : k ≤ n) : bnds n none (some (k : Int)) = some (0, k) := by
  unfold bnds
  simp only [Option.getD_none, Option.getD_some]
  rw [if_pos (by omega)]
  rfl

theorem bnds_from {n k : Nat} (h : k ≤ n) : bnds n (some (k : Int)) none = some (k, n) := by
  unfold bnds
  simp only [Option.getD_none, Option.getD_some]
  rw [if_pos (by omega)]
  simp

/-! ### Domains, letters -/

theorem spec_l6Domain_t (s : ByteArray) (hs : s.size ≤ 900000000) : spec_l6Domain_T s = some (domOk s) := by
  refine spec_l6Domain_of (s.size + 1) s ?_
  unfold spec_l6Domain_R
  have hlen := bytes_len s
  refine (qb_run (spec_l6Domain_L2_if (lp_all s.data.toList isLow (fun i => spec_l6Domain_S2 s false i) (.ext 0, spec_l6Domain_O2 s false) (.ret, spec_l6Domain_O2 s false)
    (by rw [spec_l6Domain_round2, hlen, lt_self]; rfl) rfl rfl
    (fun i b hx hi => by
      rw [hlen] at hi
      rw [spec_l6Domain_round2, lt_t hi, byteAt_nat (bytes_get hx), wrap_succ (by omega)]
      simp only [br_t, qb_s]
      unfold isLow
      by_cases h1 : b.toNat < 97
      · have : ((b.toNat : Int) < 97) := by omega
        simp [br, h1, this]
      · have h3 : ¬ ((b.toNat : Int) < 97) := by omega
        by_cases h2 : b.toNat > 122
        · have : ((b.toNat : Int) > 122) := by omega
          simp [br, h1, h2, h3, this]
        · have h4 : ¬ ((b.toNat : Int) > 122) := by omega
          simp [br, h1, h2, h3, h4]) (s.size + 1) (by omega)))).trans ?_
  unfold domOk
  cases s.data.toList.all isLow with
  | false => rfl
  | true =>
    simp only [if_true, isRetE_e, isExt_e, br_t, br_f, spec_l1In_t, qb_s, Bool.true_and]
    by_cases h1 : 1 ≤ s.size <;> by_cases h2 : s.size ≤ 10 <;> simp [h1, h2] <;> omega

theorem impl_domainOk_t (s : ByteArray) (hs : s.size ≤ 900000000) : impl_domainOk_T s = some (domOk s) := by
  refine impl_domainOk_of (s.size + 1) s ?_
  unfold impl_domainOk_R
  have hlen := bytes_len s
  refine (qb_run (impl_domainOk_L2_if (lp_all s.data.toList isLow (fun i => impl_domainOk_S2 s false s.size i) (.ext 0, impl_domainOk_O2 s false) (.ret, impl_domainOk_O2 s false)
    (by rw [impl_domainOk_round2, hlen, lt_self]; rfl) rfl rfl
    (fun i b hx hi => by
      rw [hlen] at hi
      rw [impl_domainOk_round2, lt_t hi, byteAt_nat (bytes_get hx), wrap_succ (by omega)]
      simp only [br_t, qb_s]
      unfold isLow
      by_cases h1 : b.toNat < 97
      · have : ((b.toNat : Int) < 97) := by omega
        simp [br, h1, this]
      · have h3 : ¬ ((b.toNat : Int) < 97) := by omega
        by_cases h2 : b.toNat > 122
        · have : ((b.toNat : Int) > 122) := by omega
          simp [br, h1, h2, h3, this]
        · have h4 : ¬ ((b.toNat : Int) > 122) := by omega
          simp [br, h1, h2, h3, h4]) (s.size + 1) (by omega)))).trans ?_
  unfold domOk
  cases s.data.toList.all isLow with
  | false => rfl
  | true =>
    simp only [if_true, isRetE_e, isExt_e, br_t, br_f, impl_in_t, qb_s, Bool.true_and]
    by_cases h1 : 1 ≤ s.size <;> by_cases h2 : s.size ≤ 10 <;> simp [h1, h2] <;> omega

/-! ### Patterns, policies, caches -/

/-! ### Hosts, what was told -/

end Go.Proofs.YtoebfbhcbpiheaaDoor
