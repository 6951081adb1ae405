/-
  The first seat: domains.
-/
import Derived.Test.YthhgnkogjccceaaVmSeat1
namespace Go.Proofs.Ythhgnkogjccceaa
open Go.Vm

theorem round35 (n : Nat) (s : ByteArray) (b : Bool) (i : Int) : roundK Try.prog cfg RN n 5 35 2 0 ⟨frOf [(0, .str s), (2, .bool b), (3, .int i)], hpIds []⟩ =
  br (decide (i < s.size))
    (qb (byteAt s i) fun c => br (decide (c < 97)) (some (.ret, ⟨frOf [(0, .str s), (2, .bool false)], hpIds []⟩))
      (qb (byteAt s i) fun c => br (decide (c > 122)) (some (.ret, ⟨frOf [(0, .str s), (2, .bool false)], hpIds []⟩))
        (some (.nrm, ⟨frOf [(0, .str s), (2, .bool b), (3, .int (IntKind.i64.wrap (i + 1)))], hpIds []⟩))))
    (some (.ext 0, ⟨frOf [(0, .str s), (2, .bool b)], hpIds []⟩)) := by kernel_rfl

theorem round37 (n : Nat) (s : ByteArray) (b : Bool) (j i : Int) : roundK Try.prog cfg RN n 5 37 2 0 ⟨frOf [(0, .str s), (2, .bool b), (5, .int j), (6, .int i)], hpIds []⟩ =
  br (decide (i < j))
    (qb (byteAt s i) fun c => br (decide (c < 97)) (some (.ret, ⟨frOf [(0, .str s), (2, .bool false)], hpIds []⟩))
      (qb (byteAt s i) fun c => br (decide (c > 122)) (some (.ret, ⟨frOf [(0, .str s), (2, .bool false)], hpIds []⟩))
        (some (.nrm, ⟨frOf [(0, .str s), (2, .bool b), (5, .int j), (6, .int (IntKind.i64.wrap (i + 1)))], hpIds []⟩))))
    (some (.ext 0, ⟨frOf [(0, .str s), (2, .bool b)], hpIds []⟩)) := by kernel_rfl

/-- What is left of either loop. -/
def domEnd (s : ByteArray) (ok : Bool) : Ex × St := (match ok with | true => .ext 0 | false => .ret, ⟨frOf [(0, .str s), (2, .bool false)], hpIds []⟩)

theorem loop35 (n : Nat) (s : ByteArray) (hs : s.size ≤ 9223372036854775807) : ∀ (m i q : Nat), i + m = s.size → m < q →
    lp Try.prog cfg RN n 5 35 2 0 q ⟨frOf [(0, .str s), (2, .bool false), (3, .int i)], hpIds []⟩ = some (domEnd s (lowFrom s i m))
  | 0, i, q, hi, hq => by
    obtain ⟨q, rfl⟩ : ∃ q', q = q' + 1 := ⟨q - 1, by omega⟩
    refine lp_out ?_ rfl
    rw [round35, show decide ((i : Int) < s.size) = false by simp; omega]
    rfl
  | m + 1, i, q, hi, hq => by
    obtain ⟨q, rfl⟩ : ∃ q', q = q' + 1 := ⟨q - 1, by omega⟩
    have hlt : i < s.size := by omega
    have hb : s[i]? = some s[i] := by simp [hlt]
    have hr := round35 n s false i
    rw [show decide ((i : Int) < s.size) = true by simp; omega] at hr
    simp only [br, qb, byteAt_nat hb] at hr
    unfold lowFrom
    simp only [hb]
    by_cases h1 : s[i].toNat < 97
    · rw [show decide (((s[i].toNat : Nat) : Int) < 97) = true by simp; omega] at hr
      simp only at hr
      rw [show (!(decide (s[i].toNat < 97) || decide (s[i].toNat > 122)) && lowFrom s (i + 1) m) = false by simp [h1]]
      exact lp_out hr rfl
    · rw [show decide (((s[i].toNat : Nat) : Int) < 97) = false by simp; omega] at hr
      simp only at hr
      by_cases h2 : s[i].toNat > 122
      · rw [show decide (((s[i].toNat : Nat) : Int) > 122) = true by simp; omega] at hr
        simp only at hr
        rw [show (!(decide (s[i].toNat < 97) || decide (s[i].toNat > 122)) && lowFrom s (i + 1) m) = false by simp [h2]]
        exact lp_out hr rfl
      · rw [show decide (((s[i].toNat : Nat) : Int) > 122) = false by simp; omega] at hr
        simp only at hr
        rw [show (!(decide (s[i].toNat < 97) || decide (s[i].toNat > 122)) && lowFrom s (i + 1) m) = lowFrom s (i + 1) m by simp [h1, h2]]
        rw [wrap_small (by omega) (by omega), show (i : Int) + 1 = ((i + 1 : Nat) : Int) by omega] at hr
        exact lp_next hr (loop35 n s hs m (i + 1) q (by omega) (by omega))

theorem loop37 (n : Nat) (s : ByteArray) (hs : s.size ≤ 9223372036854775807) : ∀ (m i q : Nat), i + m = s.size → m < q →
    lp Try.prog cfg RN n 5 37 2 0 q ⟨frOf [(0, .str s), (2, .bool false), (5, .int s.size), (6, .int i)], hpIds []⟩ = some (domEnd s (lowFrom s i m))
  | 0, i, q, hi, hq => by
    obtain ⟨q, rfl⟩ : ∃ q', q = q' + 1 := ⟨q - 1, by omega⟩
    refine lp_out ?_ rfl
    rw [round37, show decide ((i : Int) < s.size) = false by simp; omega]
    rfl
  | m + 1, i, q, hi, hq => by
    obtain ⟨q, rfl⟩ : ∃ q', q = q' + 1 := ⟨q - 1, by omega⟩
    have hlt : i < s.size := by omega
    have hb : s[i]? = some s[i] := by simp [hlt]
    have hr := round37 n s false s.size i
    rw [show decide ((i : Int) < s.size) = true by simp; omega] at hr
    simp only [br, qb, byteAt_nat hb] at hr
    unfold lowFrom
    simp only [hb]
    by_cases h1 : s[i].toNat < 97
    · rw [show decide (((s[i].toNat : Nat) : Int) < 97) = true by simp; omega] at hr
      simp only at hr
      rw [show (!(decide (s[i].toNat < 97) || decide (s[i].toNat > 122)) && lowFrom s (i + 1) m) = false by simp [h1]]
      exact lp_out hr rfl
    · rw [show decide (((s[i].toNat : Nat) : Int) < 97) = false by simp; omega] at hr
      simp only at hr
      by_cases h2 : s[i].toNat > 122
      · rw [show decide (((s[i].toNat : Nat) : Int) > 122) = true by simp; omega] at hr
        simp only at hr
        rw [show (!(decide (s[i].toNat < 97) || decide (s[i].toNat > 122)) && lowFrom s (i + 1) m) = false by simp [h2]]
        exact lp_out hr rfl
      · rw [show decide (((s[i].toNat : Nat) : Int) > 122) = false by simp; omega] at hr
        simp only at hr
        rw [show (!(decide (s[i].toNat < 97) || decide (s[i].toNat > 122)) && lowFrom s (i + 1) m) = lowFrom s (i + 1) m by simp [h1, h2]]
        rw [wrap_small (by omega) (by omega), show (i : Int) + 1 = ((i + 1 : Nat) : Int) by omega] at hr
        exact lp_next hr (loop37 n s hs m (i + 1) q (by omega) (by omega))

theorem rn35 (s : ByteArray) (hs : s.size ≤ 9223372036854775807) : RN 35 [.str s] [] = some (.bool (domOk s), [], []) := by
  refine rn_of_resid (n := s.size + 1) ?_
  have hr : ∀ n, resid Try.prog cfg RN n 35 [.str s] [] = ((qb (lp Try.prog cfg RN n 5 35 2 0 n ⟨frOf [(0, .str s), (2, .bool false), (3, .int 0)], hpIds []⟩) fun r =>
      qb (qb (unC (r.2.fr 0)) fun y => fStr y) fun s => qb (qb (unC (r.2.fr 2)) fun y => fBool y) fun b =>
      br (isRetE r.1) (some (.bool b, [], []))
        (br (isExt 0 r.1) (br (decide ((s.size : Int) ≥ 1)) (some (.bool (decide ((s.size : Int) ≤ 10)), [], [])) (some (.bool false, [], []))) none)) : Option (V × List Vm.Obj × List Vm.Obj)) := fun n => by kernel_rfl
  rw [hr, show (0 : Int) = ((0 : Nat) : Int) from rfl, loop35 _ s hs s.size 0 (s.size + 1) (by omega) (by omega)]
  unfold domOk
  cases lowFrom s 0 s.size with
  | false => rfl
  | true =>
    show (br (decide ((s.size : Int) ≥ 1)) (some (V.bool (decide ((s.size : Int) ≤ 10)), [], [])) (some (V.bool false, [], [])) : Option (V × List Vm.Obj × List Vm.Obj)) = _
    by_cases h1 : 1 ≤ s.size
    · rw [show decide ((s.size : Int) ≥ 1) = true by simp; omega]
      by_cases h2 : s.size ≤ 10
      · simp [br, h1, h2]; omega
      · simp [br, h1, h2]; omega
    · rw [show decide ((s.size : Int) ≥ 1) = false by simp; omega]
      simp [br, h1]

theorem rn37 (s : ByteArray) (hs : s.size ≤ 9223372036854775807) : RN 37 [.str s] [] = some (.bool (domOk s), [], []) := by
  refine rn_of_resid (n := s.size + 1) ?_
  have hr : ∀ n, resid Try.prog cfg RN n 37 [.str s] [] = ((qb (lp Try.prog cfg RN n 5 37 2 0 n ⟨frOf [(0, .str s), (2, .bool false), (5, .int s.size), (6, .int 0)], hpIds []⟩) fun r =>
      qb (qb (unC (r.2.fr 0)) fun y => fStr y) fun s => qb (qb (unC (r.2.fr 2)) fun y => fBool y) fun b =>
      br (isRetE r.1) (some (.bool b, [], []))
        (br (isExt 0 r.1) (br (decide ((s.size : Int) ≥ 1)) (some (.bool (decide ((s.size : Int) ≤ 10)), [], [])) (some (.bool false, [], []))) none)) : Option (V × List Vm.Obj × List Vm.Obj)) := fun n => by kernel_rfl
  rw [hr, show (0 : Int) = ((0 : Nat) : Int) from rfl, loop37 _ s hs s.size 0 (s.size + 1) (by omega) (by omega)]
  unfold domOk
  cases lowFrom s 0 s.size with
  | false => rfl
  | true =>
    show (br (decide ((s.size : Int) ≥ 1)) (some (V.bool (decide ((s.size : Int) ≤ 10)), [], [])) (some (V.bool false, [], [])) : Option (V × List Vm.Obj × List Vm.Obj)) = _
    by_cases h1 : 1 ≤ s.size
    · rw [show decide ((s.size : Int) ≥ 1) = true by simp; omega]
      by_cases h2 : s.size ≤ 10
      · simp [br, h1, h2]; omega
      · simp [br, h1, h2]; omega
    · rw [show decide ((s.size : Int) ≥ 1) = false by simp; omega]
      simp [br, h1]

def letterOk (l : Letter) : Bool := domOk l.domain && decide (0 ≤ l.body ∧ l.body ≤ 1000000 ∧ 1 ≤ l.state ∧ l.state ≤ 3 ∧ 0 ≤ l.tries ∧ l.tries ≤ 4 ∧ 0 ≤ l.next ∧ l.next ≤ 100000)

theorem rn14 (l : Letter) (hs : l.domain.size ≤ 9223372036854775807) : RN 14 [.ag (Letter.cells l)] [] = some (.bool (letterOk l), [], []) := by
  refine rn_of_resid (n := 0) ?_
  rw [show resid Try.prog cfg RN 0 14 [.ag (Letter.cells l)] [] = (qb (pres RN 35 [V.c (C.f (F.sc (Value.string l.domain)))]) fun v =>
  qb (qb (unC v) fun y => fBool y) fun b =>
    br b
      (br (decide (l.body ≥ 0))
        (br (decide (l.body ≤ 1000000))
          (br (decide (l.state ≥ 1))
            (br (decide (l.state ≤ 3))
              (br (decide (l.tries ≥ 0))
                (br (decide (l.tries ≤ 4))
                  (br (decide (l.next ≥ 0)) (some (V.c (C.f (F.sc (Value.bool (decide (l.next ≤ 100000))))), [], []))
                    (some (V.c (C.f (F.sc (Value.bool false))), [], [])))
                  (some (V.c (C.f (F.sc (Value.bool false))), [], [])))
                (some (V.c (C.f (F.sc (Value.bool false))), [], [])))
              (some (V.c (C.f (F.sc (Value.bool false))), [], [])))
            (some (V.c (C.f (F.sc (Value.bool false))), [], [])))
          (some (V.c (C.f (F.sc (Value.bool false))), [], [])))
        (some (V.c (C.f (F.sc (Value.bool false))), [], [])))
      (some (V.c (C.f (F.sc (Value.bool false))), [], [])) : Option (V × List Vm.Obj × List Vm.Obj)) from by kernel_rfl]
  rw [pres_f (rn35 _ hs)]
  simp only [qb, unC, fBool, br_if]
  unfold letterOk
  repeat' split
  all_goals simp_all
  all_goals omega

theorem rn15 (l : Letter) (hs : l.domain.size ≤ 9223372036854775807) : RN 15 [.ag (Letter.cells l)] [] = some (.bool (letterOk l), [], []) := by
  refine rn_of_resid (n := 0) ?_
  rw [show resid Try.prog cfg RN 0 15 [.ag (Letter.cells l)] [] = (qb (pres RN 37 [V.c (C.f (F.sc (Value.string l.domain)))]) fun v =>
  qb (qb (unC v) fun y => fBool y) fun b =>
    br b
      (br (decide (l.body ≥ 0))
        (br (decide (l.body ≤ 1000000))
          (br (decide (l.state ≥ 1))
            (br (decide (l.state ≤ 3))
              (br (decide (l.tries ≥ 0))
                (br (decide (l.tries ≤ 4))
                  (br (decide (l.next ≥ 0)) (some (V.c (C.f (F.sc (Value.bool (decide (l.next ≤ 100000))))), [], []))
                    (some (V.c (C.f (F.sc (Value.bool false))), [], [])))
                  (some (V.c (C.f (F.sc (Value.bool false))), [], [])))
                (some (V.c (C.f (F.sc (Value.bool false))), [], [])))
              (some (V.c (C.f (F.sc (Value.bool false))), [], [])))
            (some (V.c (C.f (F.sc (Value.bool false))), [], [])))
          (some (V.c (C.f (F.sc (Value.bool false))), [], [])))
        (some (V.c (C.f (F.sc (Value.bool false))), [], [])))
      (some (V.c (C.f (F.sc (Value.bool false))), [], [])) : Option (V × List Vm.Obj × List Vm.Obj)) from by kernel_rfl]
  rw [pres_f (rn37 _ hs)]
  simp only [qb, unC, fBool, br_if]
  unfold letterOk
  repeat' split
  all_goals simp_all
  all_goals omega

end Go.Proofs.Ythhgnkogjccceaa
