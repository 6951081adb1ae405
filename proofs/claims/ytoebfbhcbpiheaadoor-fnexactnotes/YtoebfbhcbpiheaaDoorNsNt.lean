/-
  Notes that are right; what is written of them.
-/
import Derived.Test.YtoebfbhcbpiheaaDoorNsWk
import Derived.Test.YtoebfbhcbpiheaaDoorNsCl
import Derived.Test.YtoebfbhcbpiheaaDoorNsDg
namespace Go.Proofs.YtoebfbhcbpiheaaDoor
open Go.Vm
set_option linter.unusedVariables false
set_option linter.unusedSimpArgs false

theorem spec_NoteOk_t (l : Note) (hs : l.domain.size ≤ 900000000) : spec_NoteOk_T l = some (noteOk l) := by
  refine spec_NoteOk_of 0 l ?_
  unfold spec_NoteOk_R
  simp only [spec_l6Domain_t _ hs, spec_l1In_t, qb_s, br_if, beq_bytes]
  unfold noteOk isAtom isTime
  generalize domOk l.domain = dm
  generalize he : decide (l.domain = ⟨#[]⟩) = em
  by_cases h1 : l.kind = 1
  · by_cases h2 : l.time = 0 <;> by_cases hw : 0 ≤ l.who <;> by_cases hw2 : l.who ≤ 29 <;> by_cases hb : 0 ≤ l.body <;> by_cases hb2 : l.body ≤ 1000000 <;> cases dm <;> simp [h1, h2, hw, hw2, hb, hb2] <;> (try omega)
  · by_cases h2 : l.kind = 2
    · by_cases ht : 0 ≤ l.time <;> by_cases ht2 : l.time ≤ 100000 <;> by_cases hw : 0 ≤ l.who <;> by_cases hw2 : l.who ≤ 29 <;> by_cases hb : l.body = 0 <;> cases em <;> simp [h1, h2, ht, ht2, hw, hw2, hb] <;> (try omega)
    · by_cases hk : l.kind = 3
      · by_cases hw : 0 ≤ l.who <;> by_cases hw2 : l.who ≤ 29 <;> by_cases hb : l.body = 0 <;> by_cases ht : l.time = 0 <;> cases em <;> simp [hk, hw, hw2, hb, ht]
      · by_cases hk2 : l.kind = 4
        · by_cases hw : 0 ≤ l.who <;> by_cases hw2 : l.who ≤ 29 <;> by_cases hb : l.body = 0 <;> by_cases ht : l.time = 0 <;> cases em <;> simp [hk2, hw, hw2, hb, ht]
        · by_cases h5 : 1 ≤ l.kind
          · rw [show decide (l.kind ≤ 4) = false by simp; omega]
            simp [h1, h2, hk, hk2, h5]
          · simp [h1, h2, hk, hk2, h5]
theorem impl_NoteOk_t (l : Note) (hs : l.domain.size ≤ 900000000) : impl_NoteOk_T l = some (noteOk l) := by
  refine impl_NoteOk_of 0 l ?_
  unfold impl_NoteOk_R
  simp only [impl_domainOk_t _ hs, impl_in_t, impl_isTime_t, impl_isAtom_t, qb_s, br_if, beq_ba, beq_int]
  unfold noteOk isAtom isTime
  generalize domOk l.domain = dm
  generalize he : decide (l.domain = ⟨#[]⟩) = em
  by_cases h1 : l.kind = 1
  · by_cases h2 : l.time = 0 <;> by_cases hw : 0 ≤ l.who <;> by_cases hw2 : l.who ≤ 29 <;> by_cases hb : 0 ≤ l.body <;> by_cases hb2 : l.body ≤ 1000000 <;> cases dm <;> simp [h1, h2, hw, hw2, hb, hb2] <;> (try omega)
  · by_cases h2 : l.kind = 2
    · by_cases ht : 0 ≤ l.time <;> by_cases ht2 : l.time ≤ 100000 <;> by_cases hw : 0 ≤ l.who <;> by_cases hw2 : l.who ≤ 29 <;> by_cases hb : l.body = 0 <;> cases em <;> simp [h1, h2, ht, ht2, hw, hw2, hb] <;> (try omega)
    · by_cases hk : l.kind = 3 <;> by_cases hk2 : l.kind = 4 <;> by_cases hw : 0 ≤ l.who <;> by_cases hw2 : l.who ≤ 29 <;> by_cases hb : l.body = 0 <;> by_cases ht : l.time = 0 <;> cases em <;> simp [h1, h2, hk, hk2, hw, hw2, hb, ht] <;> (try omega)
theorem spec_NoteText_t (l : Note) (hs : l.domain.size ≤ 900000000) : spec_NoteText_T l = some (noteText l) := by
  refine spec_NoteText_of 0 l ?_
  unfold spec_NoteText_R
  rw [spec_NoteOk_t l hs, qb_s]
  unfold noteText
  cases hok : noteOk l with
  | false => rfl
  | true =>
    obtain ⟨w0, w1, hc⟩ := noteOk_spec hok
    have a0 := itoaB_size (n := l.who) (by omega) (by omega)
    have p0 := spec_l1Digits_t l.who (by omega) (by omega)
    rcases hc with ⟨k, hd, b0, b1, t⟩ | ⟨k, t0, t1⟩ | k | k
    · have a2 := itoaB_size (n := l.body) (by omega) (by omega)
      have p1 := spec_l1Digits_t l.body (by omega) (by omega)
      have e1 : ∀ a b c d e : ByteArray, idx [a, b, c, d, e] 1 = some b := fun _ _ _ _ _ => rfl
      simp only [k, e1, Bool.not_true, br, p0, p1, qb_s, if_true, noteWord, beq_self_eq_true]
      simp (disch := (simp only [ByteArray.size_append, ba_size, List.size_toArray, List.length_cons, List.length_nil]; omega)) only [catOk_ok, qb_s]
    · have a2 := itoaB_size (n := l.time) (by omega) (by omega)
      have p1 := spec_l1Digits_t l.time (by omega) (by omega)
      have e1 : ∀ a b c d e : ByteArray, idx [a, b, c, d, e] 2 = some c := fun _ _ _ _ _ => rfl
      have n1 : ((2 : Int) == 1) = false := rfl
      have n2 : ¬ ((2 : Int) = 1) := by decide
      simp only [k, e1, Bool.not_true, br, p0, p1, qb_s, if_true, if_false, noteWord, beq_self_eq_true, n1, n2]
      simp (disch := (simp only [ByteArray.size_append, ba_size, List.size_toArray, List.length_cons, List.length_nil]; omega)) only [catOk_ok, qb_s]
    · have e1 : ∀ a b c d e : ByteArray, idx [a, b, c, d, e] 3 = some d := fun _ _ _ _ _ => rfl
      have n1 : ((3 : Int) == 1) = false := rfl
      have n3 : ((3 : Int) == 2) = false := rfl
      have n2 : ¬ ((3 : Int) = 1) := by decide
      have n4 : ¬ ((3 : Int) = 2) := by decide
      simp only [k, e1, Bool.not_true, br, p0, qb_s, if_true, if_false, noteWord, n1, n2, n3, n4]
      simp (disch := (simp only [ByteArray.size_append, ba_size, List.size_toArray, List.length_cons, List.length_nil]; omega)) only [catOk_ok, qb_s]
    · have e1 : ∀ a b c d e : ByteArray, idx [a, b, c, d, e] 4 = some e := fun _ _ _ _ _ => rfl
      have n1 : ((4 : Int) == 1) = false := rfl
      have n3 : ((4 : Int) == 2) = false := rfl
      have n2 : ¬ ((4 : Int) = 1) := by decide
      have n4 : ¬ ((4 : Int) = 2) := by decide
      have n5 : ¬ ((4 : Int) = 3) := by decide
      simp only [k, e1, Bool.not_true, br, p0, qb_s, if_true, if_false, noteWord, n1, n2, n3, n4, n5]
      simp (disch := (simp only [ByteArray.size_append, ba_size, List.size_toArray, List.length_cons, List.length_nil]; omega)) only [catOk_ok, qb_s]
theorem impl_NoteText_t (l : Note) (hs : l.domain.size ≤ 900000000) : impl_NoteText_T l = some (noteText l) := by
  refine impl_NoteText_of 0 l ?_
  unfold impl_NoteText_R
  rw [impl_NoteOk_t l hs, qb_s]
  unfold noteText
  cases hok : noteOk l with
  | false => rfl
  | true =>
    obtain ⟨w0, w1, hc⟩ := noteOk_spec hok
    have a0 := itoaB_size (n := l.who) (by omega) (by omega)
    have p0 := Itoa_t l.who (by omega) (by omega)
    rcases hc with ⟨k, hd, b0, b1, t⟩ | ⟨k, t0, t1⟩ | k | k
    · have a2 := itoaB_size (n := l.body) (by omega) (by omega)
      have p1 := Itoa_t l.body (by omega) (by omega)
      have e1 : ∀ a b c d e : ByteArray, idx [a, b, c, d, e] 1 = some b := fun _ _ _ _ _ => rfl
      simp only [k, e1, Bool.not_true, br, p0, p1, qb_s, if_true, noteWord, beq_self_eq_true]
      simp (disch := (simp only [ByteArray.size_append, ba_size, List.size_toArray, List.length_cons, List.length_nil]; omega)) only [catOk_ok, qb_s]
      simp only [ba_assoc]
    · have a2 := itoaB_size (n := l.time) (by omega) (by omega)
      have p1 := Itoa_t l.time (by omega) (by omega)
      have e1 : ∀ a b c d e : ByteArray, idx [a, b, c, d, e] 2 = some c := fun _ _ _ _ _ => rfl
      have n1 : ((2 : Int) == 1) = false := rfl
      have n2 : ¬ ((2 : Int) = 1) := by decide
      simp only [k, e1, Bool.not_true, br, p0, p1, qb_s, if_true, if_false, noteWord, beq_self_eq_true, n1, n2]
      simp (disch := (simp only [ByteArray.size_append, ba_size, List.size_toArray, List.length_cons, List.length_nil]; omega)) only [catOk_ok, qb_s]
      simp only [ba_assoc]
    · have e1 : ∀ a b c d e : ByteArray, idx [a, b, c, d, e] 3 = some d := fun _ _ _ _ _ => rfl
      have n1 : ((3 : Int) == 1) = false := rfl
      have n3 : ((3 : Int) == 2) = false := rfl
      have n2 : ¬ ((3 : Int) = 1) := by decide
      have n4 : ¬ ((3 : Int) = 2) := by decide
      simp only [k, e1, Bool.not_true, br, p0, qb_s, if_true, if_false, noteWord, n1, n2, n3, n4]
      simp (disch := (simp only [ByteArray.size_append, ba_size, List.size_toArray, List.length_cons, List.length_nil]; omega)) only [catOk_ok, qb_s]
    · have e1 : ∀ a b c d e : ByteArray, idx [a, b, c, d, e] 4 = some e := fun _ _ _ _ _ => rfl
      have n1 : ((4 : Int) == 1) = false := rfl
      have n3 : ((4 : Int) == 2) = false := rfl
      have n2 : ¬ ((4 : Int) = 1) := by decide
      have n4 : ¬ ((4 : Int) = 2) := by decide
      have n5 : ¬ ((4 : Int) = 3) := by decide
      simp only [k, e1, Bool.not_true, br, p0, qb_s, if_true, if_false, noteWord, n1, n2, n3, n4, n5]
      simp (disch := (simp only [ByteArray.size_append, ba_size, List.size_toArray, List.length_cons, List.length_nil]; omega)) only [catOk_ok, qb_s]
end Go.Proofs.YtoebfbhcbpiheaaDoor
