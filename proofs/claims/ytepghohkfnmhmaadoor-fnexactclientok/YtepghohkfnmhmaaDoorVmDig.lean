/-
  A number's decimal digits, one behind the other, from the last on.
-/
import Derived.Test.YtepghohkfnmhmaaDoorVmExt
namespace Go.Vm
open Go.Proofs
set_option linter.unusedVariables false
set_option linter.unusedSimpArgs false

/-- The digits, none of 0. -/
def digs (m : Nat) : List UInt8 := if m = 0 then [] else Lib.decDigits m

theorem digs_zero : digs 0 = [] := rfl

theorem digs_step {m : Nat} (h : m ≠ 0) : digs m = digs (m / 10) ++ [UInt8.ofNat (48 + m % 10)] := by
  unfold digs
  rw [if_neg h, Lib.decDigits]
  by_cases h1 : m < 10
  · rw [dif_pos h1, if_pos (by omega), show m % 10 = m by omega]; rfl
  · rw [dif_neg h1, if_neg (by omega)]

theorem ba_cons (y : UInt8) (l : List UInt8) : (ByteArray.mk #[y]) ++ (ByteArray.mk l.toArray) = ByteArray.mk (y :: l).toArray := by
  refine ByteArray.ext ?_
  rw [ByteArray.data_append]
  simp

theorem ba_append (l r : List UInt8) : (ByteArray.mk l.toArray) ++ (ByteArray.mk r.toArray) = ByteArray.mk (l ++ r).toArray := by
  refine ByteArray.ext ?_
  rw [ByteArray.data_append]
  simp

theorem ba_len (l : List UInt8) : (ByteArray.mk l.toArray).size = l.length := by simp [ByteArray.size]

theorem u8_digit {d : Nat} (h : d < 10) : u8of (IntKind.u8.wrap (IntKind.i64.wrap (48 + (d : Int)))) = some (UInt8.ofNat (48 + d)) := by
  rw [wrap_id (by omega) (by omega)]
  have : ∀ k : Nat, k < 10 → u8of (IntKind.u8.wrap (48 + (k : Int))) = some (UInt8.ofNat (48 + k)) := by decide
  exact this d h

theorem ne10 : ne0 10 = some () := rfl

section
variable {P : Program} {cfg : Cfg} {T : CallSem} {n d f r : Nat}

theorem lp_digits (S : Int → Bool → ByteArray → St) (O : Bool → ByteArray → St)
    (hr : ∀ x b acc, roundK P cfg T n d f r 0 (S x b acc) = br (x != 0)
      (qb (ne0 10) fun _ =>
        br (decide (x.tmod 10 < 0))
          (qb (u8of (IntKind.u8.wrap (IntKind.i64.wrap (48 + IntKind.i64.wrap (0 - x.tmod 10))))) fun y =>
            qb (catOk (ByteArray.mk #[y]) acc) fun _ => qb (ne0 10) fun _ => some (Ex.nrm, S (IntKind.i64.wrap (x.tdiv 10)) b (ByteArray.mk #[y] ++ acc)))
          (qb (u8of (IntKind.u8.wrap (IntKind.i64.wrap (48 + x.tmod 10)))) fun y =>
            qb (catOk (ByteArray.mk #[y]) acc) fun _ => qb (ne0 10) fun _ => some (Ex.nrm, S (IntKind.i64.wrap (x.tdiv 10)) b (ByteArray.mk #[y] ++ acc))))
      (some (Ex.ext 0, O b acc))) (b : Bool) :
    ∀ (m : Nat) (neg : Bool) (l : List UInt8) (q : Nat), m ≤ 9223372036854775808 → (neg = false → m ≤ 9223372036854775807) → (digs m).length + l.length ≤ 100 → m < q →
      lp P cfg T n d f r 0 q (S (bif neg then -(m : Int) else m) b ⟨l.toArray⟩) = some (.ext 0, O b ⟨(digs m ++ l).toArray⟩) := by
  intro m
  induction m using Nat.strongRecOn with
  | _ m ih =>
    intro neg l q hm hm2 hlen hq
    obtain ⟨q, rfl⟩ : ∃ q', q = q' + 1 := ⟨q - 1, by omega⟩
    by_cases h0 : m = 0
    · subst h0
      refine lp_out (e := .ext 0) ?_ rfl
      rw [hr]
      cases neg <;> simp [br, digs_zero]
    · have hst := digs_step h0
      have hcat : ∀ y : UInt8, catOk (ByteArray.mk #[y]) (ByteArray.mk l.toArray) = some () := fun y => catOk_ok (by rw [ba_len, ba_size]; simp; omega)
      have hlen2 : (digs (m / 10)).length + ((UInt8.ofNat (48 + m % 10) :: l)).length ≤ 100 := by
        rw [hst] at hlen; simp at hlen ⊢; omega
      have hnext := ih (m / 10) (by omega) neg (UInt8.ofNat (48 + m % 10) :: l) q (by omega) (fun _ => by omega) hlen2 (by omega)
      rw [show digs m ++ l = digs (m / 10) ++ (UInt8.ofNat (48 + m % 10) :: l) by rw [hst]; simp]
      refine lp_next ?_ hnext
      have hdig := u8_digit (d := m % 10) (by omega)
      have hm1 : (m : Int).tmod 10 = ((m % 10 : Nat) : Int) := rfl
      have hd1 : (m : Int).tdiv 10 = ((m / 10 : Nat) : Int) := rfl
      cases neg with
      | false =>
        show roundK P cfg T n d f r 0 (S (m : Int) b ⟨l.toArray⟩) = some (.nrm, S ((m / 10 : Nat) : Int) b _)
        rw [hr]
        have e1 : ((m : Int) != 0) = true := by simp; omega
        have e2 : decide ((m : Int).tmod 10 < 0) = false := by rw [decide_eq_false_iff_not, hm1]; omega
        have e3 : IntKind.i64.wrap ((m / 10 : Nat) : Int) = ((m / 10 : Nat) : Int) := wrap_id (by omega) (by omega)
        simp only [e1, e2, br, qb, ne10]
        simp only [hm1, hd1, hdig, hcat, e3, ba_cons]
      | true =>
        show roundK P cfg T n d f r 0 (S (-(m : Int)) b ⟨l.toArray⟩) = some (.nrm, S (-((m / 10 : Nat) : Int)) b _)
        rw [hr]
        have e1 : ((-(m : Int)) != 0) = true := by simp; omega
        have t1 : (-(m : Int)).tmod 10 = -((m % 10 : Nat) : Int) := by rw [Int.neg_tmod, hm1]
        have t2 : (-(m : Int)).tdiv 10 = -((m / 10 : Nat) : Int) := by rw [Int.neg_tdiv, hd1]
        have e3 : IntKind.i64.wrap (-((m / 10 : Nat) : Int)) = -((m / 10 : Nat) : Int) := wrap_id (by omega) (by omega)
        by_cases h1 : m % 10 = 0
        · have e2 : decide ((-(m : Int)).tmod 10 < 0) = false := by rw [decide_eq_false_iff_not, t1]; omega
          have t3 : (-(m : Int)).tmod 10 = ((m % 10 : Nat) : Int) := by rw [t1]; omega
          simp only [e1, e2, br, qb, ne10]
          simp only [t3, t2, hdig, hcat, e3, ba_cons]
        · have e2 : decide ((-(m : Int)).tmod 10 < 0) = true := by rw [decide_eq_true_iff, t1]; omega
          have t3 : IntKind.i64.wrap (0 - (-(m : Int)).tmod 10) = ((m % 10 : Nat) : Int) := by rw [t1, wrap_id (by omega) (by omega)]; omega
          simp only [e1, e2, br, qb, ne10]
          simp only [t3, t2, hdig, hcat, e3, ba_cons]

theorem itoaB_neg {m : Nat} (h : m ≠ 0) : itoaB (-(m : Int)) = ByteArray.mk #[45] ++ ByteArray.mk (digs m).toArray := by
  rw [ba_cons]
  unfold itoaB Lib.itoa digs
  rw [if_pos (by omega), if_neg h]
  simp

theorem itoaB_pos {m : Nat} (h : m ≠ 0) : itoaB (m : Int) = ByteArray.mk (digs m).toArray := by
  unfold itoaB Lib.itoa digs
  rw [if_neg (by omega), if_neg h]
  simp

theorem itoaB_zero : itoaB 0 = ⟨#[48]⟩ := by
  unfold itoaB Lib.itoa
  rw [if_neg (by omega), Lib.decDigits, dif_pos (by simp)]
  rfl

theorem itoaB_size {n : Int} (h0 : -9223372036854775808 ≤ n) (h1 : n ≤ 9223372036854775807) : (itoaB n).size ≤ 21 := by
  unfold itoaB
  rw [ba_len]
  exact Lib.itoa_length_le n h0 h1

theorem digs_len {m : Nat} (h : m ≤ 9223372036854775808) : (digs m).length ≤ 21 := by
  unfold digs
  split
  · simp
  · have := Lib.nDigits_le20 m (by omega)
    rw [Lib.decDigits_length]
    omega

end
end Go.Vm
