/-
  Domains.
-/
import Derived.Test.YthhgnkogjccceaaDoorDRes
import Derived.Test.YthhgnkogjccceaaDoorVmLib
namespace Go.Proofs.YthhgnkogjccceaaDoor
open Go.Vm
set_option linter.unusedVariables false
set_option linter.unusedSimpArgs false

theorem spec_l6Domain_rn (s : ByteArray) (hs : s.size ≤ 9223372036854775807) : RN 44 [.str s] [] = some (.bool (domOk s), [], []) := by
  refine rn_of_resid (n := s.size + 1) ?_
  rw [spec_l6Domain_res]
  have hlen := bytes_len s
  have hloop := lp_list (P := Tryd.prog) (cfg := cfg) (T := RN) (n := s.size + 1) (d := 5) (f := 44) (r := 2) (na := 0) s.data.toList
      (fun _ b (_ : Unit) => if isLow b = true then (.inl () : Unit ⊕ Unit) else .inr ())
      (fun i _ => ⟨frOf [(0, .str s), (2, .bool false), (3, .int i)], hpIds []⟩)
      (fun _ => (.ext 0, ⟨frOf [(0, .str s), (2, .bool false)], hpIds []⟩)) (fun _ => (.ret, ⟨frOf [(0, .str s), (2, .bool false)], hpIds []⟩)) (fun _ _ => True)
      (fun _ _ => by rw [spec_l6Domain_round2, hlen, lt_self]; rfl) (fun _ => rfl) (fun _ => rfl)
      (fun i b _ hx hi _ => by
        rw [hlen] at hi
        rw [spec_l6Domain_round2, lt_t hi]
        simp only [br, qb, byteAt_nat (bytes_get hx)]
        by_cases h1 : b.toNat < 97
        · rw [show decide ((b.toNat : Int) < 97) = true by simp; omega]
          simp [isLow, h1]
        · rw [show decide ((b.toNat : Int) < 97) = false by simp; omega]
          simp only
          by_cases h2 : b.toNat > 122
          · rw [show decide ((b.toNat : Int) > 122) = true by simp; omega]
            simp [isLow, h1, h2]
          · rw [show decide ((b.toNat : Int) > 122) = false by simp; omega, wrap_succ (by omega)]
            simp [isLow, h1, h2])
      (fun _ _ _ _ _ _ _ _ => trivial) () (s.size + 1) trivial (by omega)
  refine (qb_run hloop).trans ?_
  rw [lfold_all]
  unfold domOk
  cases s.data.toList.all isLow with
  | false => rfl
  | true =>
    show (br (decide ((s.size : Int) ≥ 1)) (some (V.bool (decide ((s.size : Int) ≤ 10)), [], [])) (some (V.bool false, [], [])) : Option (V × List Vm.Obj × List Vm.Obj)) = _
    by_cases h1 : 1 ≤ s.size
    · rw [show decide ((s.size : Int) ≥ 1) = true by simp; omega]
      by_cases h2 : s.size ≤ 10
      · simp [br, h1, h2]; omega
      · simp [br, h1, h2]; omega
    · rw [show decide ((s.size : Int) ≥ 1) = false by simp; omega]
      simp [br, h1]

theorem impl_domainOk_rn (s : ByteArray) (hs : s.size ≤ 9223372036854775807) : RN 45 [.str s] [] = some (.bool (domOk s), [], []) := by
  refine rn_of_resid (n := s.size + 1) ?_
  rw [impl_domainOk_res]
  have hlen := bytes_len s
  have hloop := lp_list (P := Tryd.prog) (cfg := cfg) (T := RN) (n := s.size + 1) (d := 5) (f := 45) (r := 2) (na := 0) s.data.toList
      (fun _ b (_ : Unit) => if isLow b = true then (.inl () : Unit ⊕ Unit) else .inr ())
      (fun i _ => ⟨frOf [(0, .str s), (2, .bool false), (5, .int s.size), (6, .int i)], hpIds []⟩)
      (fun _ => (.ext 0, ⟨frOf [(0, .str s), (2, .bool false)], hpIds []⟩)) (fun _ => (.ret, ⟨frOf [(0, .str s), (2, .bool false)], hpIds []⟩)) (fun _ _ => True)
      (fun _ _ => by rw [impl_domainOk_round2, hlen, lt_self]; rfl) (fun _ => rfl) (fun _ => rfl)
      (fun i b _ hx hi _ => by
        rw [hlen] at hi
        rw [impl_domainOk_round2, lt_t hi]
        simp only [br, qb, byteAt_nat (bytes_get hx)]
        by_cases h1 : b.toNat < 97
        · rw [show decide ((b.toNat : Int) < 97) = true by simp; omega]
          simp [isLow, h1]
        · rw [show decide ((b.toNat : Int) < 97) = false by simp; omega]
          simp only
          by_cases h2 : b.toNat > 122
          · rw [show decide ((b.toNat : Int) > 122) = true by simp; omega]
            simp [isLow, h1, h2]
          · rw [show decide ((b.toNat : Int) > 122) = false by simp; omega, wrap_succ (by omega)]
            simp [isLow, h1, h2])
      (fun _ _ _ _ _ _ _ _ => trivial) () (s.size + 1) trivial (by omega)
  refine (qb_run hloop).trans ?_
  rw [lfold_all]
  unfold domOk
  cases s.data.toList.all isLow with
  | false => rfl
  | true =>
    show (br (decide ((s.size : Int) ≥ 1)) (some (V.bool (decide ((s.size : Int) ≤ 10)), [], [])) (some (V.bool false, [], [])) : Option (V × List Vm.Obj × List Vm.Obj)) = _
    by_cases h1 : 1 ≤ s.size
    · rw [show decide ((s.size : Int) ≥ 1) = true by simp; omega]
      by_cases h2 : s.size ≤ 10
      · simp [br, h1, h2]; omega
      · simp [br, h1, h2]; omega
    · rw [show decide ((s.size : Int) ≥ 1) = false by simp; omega]
      simp [br, h1]

end Go.Proofs.YthhgnkogjccceaaDoor
