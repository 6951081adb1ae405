/-
  What is written of notes.
-/
import Derived.Test.YthhgnkogjccceaaDoorDNOk
import Derived.Test.YthhgnkogjccceaaDoorDDig
import Derived.Test.YthhgnkogjccceaaDoorVmText
namespace Go.Proofs.YthhgnkogjccceaaDoor
open Go.Vm
set_option linter.unusedVariables false
set_option linter.unusedSimpArgs false

theorem spec_NoteText_rn (l : Note) (hs : l.domain.size ≤ 9223372036854775807) : RN 8 [.ag (Note.cells l)] [] = some (.str (noteText l), [], []) := by
  refine rn_of_resid (n := 0) ?_
  have hk := pres_f (spec_NoteOk_rn l hs)
  simp only [Note.cells, V.ag, List.map_cons, List.map_nil] at hk
  rw [spec_NoteText_res, hk]
  simp only [qb, unC, fBool]
  unfold noteText
  cases hok : noteOk l with
  | false => rfl
  | true =>
    obtain ⟨w0, w1, hc⟩ := noteOk_spec hok
    have a0 := itoaB_size (n := l.who) (by omega) (by omega)
    have p0 := pres_f (spec_l1Digits_rn l.who (by omega) (by omega))
    have c32 : (ByteArray.mk #[32]).size = 1 := rfl
    have c10 : (ByteArray.mk #[10]).size = 1 := rfl
    rcases hc with ⟨k, hd, b0, b1, t⟩ | ⟨k, t0, t1⟩ | k | k
    · have a2 := itoaB_size (n := l.body) (by omega) (by omega)
      have p1 := pres_f (spec_l1Digits_rn l.body (by omega) (by omega))
      have e1 : ∀ a b c d e : ByteArray, idx [a, b, c, d, e] 1 = some b := fun _ _ _ _ _ => rfl
      simp only [k, e1, Bool.not_true, br, p0, p1, fStr, if_true, noteWord, beq_self_eq_true]
      simp (disch := (simp only [ByteArray.size_append, ba_size, List.size_toArray, List.length_cons, List.length_nil]; omega)) only [catOk_ok]
    · have a2 := itoaB_size (n := l.time) (by omega) (by omega)
      have p1 := pres_f (spec_l1Digits_rn l.time (by omega) (by omega))
      have e1 : ∀ a b c d e : ByteArray, idx [a, b, c, d, e] 2 = some c := fun _ _ _ _ _ => rfl
      have n1 : ((2 : Int) == 1) = false := rfl
      have n2 : ¬ ((2 : Int) = 1) := by decide
      simp only [k, e1, Bool.not_true, br, p0, p1, fStr, if_true, if_false, noteWord, beq_self_eq_true, n1, n2]
      simp (disch := (simp only [ByteArray.size_append, ba_size, List.size_toArray, List.length_cons, List.length_nil]; omega)) only [catOk_ok]
    · have e1 : ∀ a b c d e : ByteArray, idx [a, b, c, d, e] 3 = some d := fun _ _ _ _ _ => rfl
      have n1 : ((3 : Int) == 1) = false := rfl
      have n3 : ((3 : Int) == 2) = false := rfl
      have n2 : ¬ ((3 : Int) = 1) := by decide
      have n4 : ¬ ((3 : Int) = 2) := by decide
      simp only [k, e1, Bool.not_true, br, p0, fStr, if_true, if_false, noteWord, n1, n2, n3, n4]
      simp (disch := (simp only [ByteArray.size_append, ba_size, List.size_toArray, List.length_cons, List.length_nil]; omega)) only [catOk_ok]
    · have e1 : ∀ a b c d e : ByteArray, idx [a, b, c, d, e] 4 = some e := fun _ _ _ _ _ => rfl
      have n1 : ((4 : Int) == 1) = false := rfl
      have n3 : ((4 : Int) == 2) = false := rfl
      have n2 : ¬ ((4 : Int) = 1) := by decide
      have n4 : ¬ ((4 : Int) = 2) := by decide
      have n5 : ¬ ((4 : Int) = 3) := by decide
      simp only [k, e1, Bool.not_true, br, p0, fStr, if_true, if_false, noteWord, n1, n2, n3, n4, n5]
      simp (disch := (simp only [ByteArray.size_append, ba_size, List.size_toArray, List.length_cons, List.length_nil]; omega)) only [catOk_ok]

theorem impl_NoteText_rn (l : Note) (hs : l.domain.size ≤ 9223372036854775807) : RN 10 [.ag (Note.cells l)] [] = some (.str (noteText l), [], []) := by
  refine rn_of_resid (n := 0) ?_
  have hk := pres_f (impl_NoteOk_rn l hs)
  simp only [Note.cells, V.ag, List.map_cons, List.map_nil] at hk
  rw [impl_NoteText_res, hk]
  simp only [qb, unC, fBool]
  unfold noteText
  cases hok : noteOk l with
  | false => rfl
  | true =>
    obtain ⟨w0, w1, hc⟩ := noteOk_spec hok
    have a0 := itoaB_size (n := l.who) (by omega) (by omega)
    have p0 := pres_f (Itoa_rn l.who (by omega) (by omega))
    have c32 : (ByteArray.mk #[32]).size = 1 := rfl
    have c10 : (ByteArray.mk #[10]).size = 1 := rfl
    rcases hc with ⟨k, hd, b0, b1, t⟩ | ⟨k, t0, t1⟩ | k | k
    · have a2 := itoaB_size (n := l.body) (by omega) (by omega)
      have p1 := pres_f (Itoa_rn l.body (by omega) (by omega))
      have e1 : ∀ a b c d e : ByteArray, idx [a, b, c, d, e] 1 = some b := fun _ _ _ _ _ => rfl
      simp only [k, e1, Bool.not_true, br, p0, p1, fStr, if_true, noteWord, beq_self_eq_true]
      simp (disch := (simp only [ByteArray.size_append, ba_size, List.size_toArray, List.length_cons, List.length_nil]; omega)) only [catOk_ok]
      simp only [ba_assoc]
    · have a2 := itoaB_size (n := l.time) (by omega) (by omega)
      have p1 := pres_f (Itoa_rn l.time (by omega) (by omega))
      have e1 : ∀ a b c d e : ByteArray, idx [a, b, c, d, e] 2 = some c := fun _ _ _ _ _ => rfl
      have n1 : ((2 : Int) == 1) = false := rfl
      have n2 : ¬ ((2 : Int) = 1) := by decide
      simp only [k, e1, Bool.not_true, br, p0, p1, fStr, if_true, if_false, noteWord, beq_self_eq_true, n1, n2]
      simp (disch := (simp only [ByteArray.size_append, ba_size, List.size_toArray, List.length_cons, List.length_nil]; omega)) only [catOk_ok]
      simp only [ba_assoc]
    · have e1 : ∀ a b c d e : ByteArray, idx [a, b, c, d, e] 3 = some d := fun _ _ _ _ _ => rfl
      have n1 : ((3 : Int) == 1) = false := rfl
      have n3 : ((3 : Int) == 2) = false := rfl
      have n2 : ¬ ((3 : Int) = 1) := by decide
      have n4 : ¬ ((3 : Int) = 2) := by decide
      simp only [k, e1, Bool.not_true, br, p0, fStr, if_true, if_false, noteWord, n1, n2, n3, n4]
      simp (disch := (simp only [ByteArray.size_append, ba_size, List.size_toArray, List.length_cons, List.length_nil]; omega)) only [catOk_ok]
    · have e1 : ∀ a b c d e : ByteArray, idx [a, b, c, d, e] 4 = some e := fun _ _ _ _ _ => rfl
      have n1 : ((4 : Int) == 1) = false := rfl
      have n3 : ((4 : Int) == 2) = false := rfl
      have n2 : ¬ ((4 : Int) = 1) := by decide
      have n4 : ¬ ((4 : Int) = 2) := by decide
      have n5 : ¬ ((4 : Int) = 3) := by decide
      simp only [k, e1, Bool.not_true, br, p0, fStr, if_true, if_false, noteWord, n1, n2, n3, n4, n5]
      simp (disch := (simp only [ByteArray.size_append, ba_size, List.size_toArray, List.length_cons, List.length_nil]; omega)) only [catOk_ok]

theorem toNote_rn (n : Note) : RN 9 [.ag (Note.cells n)] [] = some (.ag (Note.cells n), [], []) := by
  refine rn_of_resid (n := 0) ?_
  rw [laws_toNote_res]
  rfl

theorem szNote_rn (n : Note) (hs : n.domain.size ≤ 9223372036854775807) : ∃ k, RN 7 [.ag (Note.cells n), .int 1048576] [] = some (.int k, [], []) := by
  by_cases h : IntKind.i64.wrap (1048576 - (n.domain.size : Int)) < 0
  · exact ⟨-1, rn_of_resid (n := 0) (by rw [laws_szNote_res]; simp [br, h])⟩
  · exact ⟨_, rn_of_resid (n := 0) (by rw [laws_szNote_res]; simp only [br, h, decide_false]; rfl)⟩

end Go.Proofs.YthhgnkogjccceaaDoor
