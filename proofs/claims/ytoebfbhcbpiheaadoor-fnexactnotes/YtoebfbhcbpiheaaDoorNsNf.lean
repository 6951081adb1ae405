/-
  NoteOf.
-/
import Derived.Test.YtoebfbhcbpiheaaDoorNsNo
namespace Go.Proofs.YtoebfbhcbpiheaaDoor
open Go.Vm
set_option linter.unusedVariables false
set_option linter.unusedSimpArgs false

theorem last_byte (s : ByteArray) (h : 1 ≤ s.size) : ∃ b, s.data.toList[s.size - 1]? = some b ∧ s.extract (s.size - 1) s.size = ⟨#[b]⟩ := by
  have hi : s.size - 1 < s.data.toList.length := by rw [bytes_len]; omega
  refine ⟨_, List.getElem?_eq_getElem hi, ?_⟩
  rw [extract_list (l := [s.data.toList[s.size - 1]]) (by omega) (by
    rw [List.take_of_length_le (by rw [bytes_len]; omega), List.drop_eq_getElem_cons hi, List.drop_eq_nil_of_le (by rw [bytes_len]; omega)])]

theorem one_byte {b c : UInt8} : ((⟨#[b]⟩ : ByteArray) = ⟨#[c]⟩) ↔ b = c := by
  constructor
  · intro h
    have := congrArg (fun s : ByteArray => s.data.toList) h
    simpa using this
  · rintro rfl; rfl

theorem br_same {α : Type} (b : Bool) (x : α) : br b x x = x := by cases b <;> rfl

theorem kindOf_cases (w : ByteArray) : kindOf w = 0 ∨ kindOf w = 1 ∨ kindOf w = 2 ∨ kindOf w = 3 ∨ kindOf w = 4 := by
  unfold kindOf
  repeat' split
  all_goals simp

def noteNames : List ByteArray := [⟨#[]⟩, ⟨#[116, 97, 107, 101]⟩, ⟨#[116, 114, 121]⟩, ⟨#[103, 111, 110, 101]⟩, ⟨#[98, 97, 99, 107]⟩]

def kindStep (w : ByteArray) (a : Note) (k : Nat) : Note := if w = noteNames.getD k ⟨#[]⟩ then ⟨k, a.who, a.domain, a.body, a.time⟩ else a

theorem kind_fold (w : ByteArray) : [1, 2, 3, 4].foldl (kindStep w) zeroN = ⟨kindOf w, 0, ⟨#[]⟩, 0, 0⟩ := by
  simp only [List.foldl_cons, List.foldl_nil, kindStep, noteNames, List.getD_eq_getElem?_getD, List.getElem?_cons_succ, List.getElem?_cons_zero, Option.getD_some]
  unfold kindOf zeroN
  by_cases h4 : w = ⟨#[98, 97, 99, 107]⟩
  · simp [h4]
  · by_cases h3 : w = ⟨#[103, 111, 110, 101]⟩
    · simp [h3]
    · by_cases h2 : w = ⟨#[116, 114, 121]⟩
      · simp [h2]
      · by_cases h1 : w = ⟨#[116, 97, 107, 101]⟩
        · simp [h1]
        · simp [h1, h2, h3, h4]

set_option maxRecDepth 20000 in
theorem spec_NoteOf_t (s : ByteArray) (hs : s.size ≤ 900000000) : spec_NoteOf_T s = some ((noteOfS s).1, (noteOfS s).2, ()) := by
  refine spec_NoteOf_of 5 s ?_
  unfold spec_NoteOf_R noteOfS
  by_cases h0 : 1 ≤ s.size
  case neg =>
    rw [show ((s.size : Int) == 0) = true by rw [beq_int]; exact decide_eq_true (by omega), br_t, if_neg (fun h => h0 h.1)]
    rfl
  obtain ⟨b, hb, hx⟩ := last_byte s h0
  rw [show ((s.size : Int) == 0) = false by rw [beq_int]; exact decide_eq_false (by omega), br_f, wrap_id (by omega) (by omega), show (s.size : Int) - 1 = ((s.size - 1 : Nat) : Int) by omega, byteAt_nat (bytes_get hb), qb_s, hx]
  by_cases h10 : b = 10
  case neg =>
    rw [show ((b.toNat : Int) != 10) = true by
      rw [bne_int, Bool.not_eq_true', decide_eq_false_iff_not]
      intro e
      exact h10 (UInt8.toNat_inj.1 (by have : (10 : UInt8).toNat = 10 := rfl; omega)), br_t, if_neg (fun h => h10 (one_byte.1 h.2))]
    rfl
  subst h10
  rw [show (((10 : UInt8).toNat : Int) != 10) = false from rfl, br_f, bnds_front (by omega), qb_s, if_pos ⟨h0, rfl⟩]
  have hex : (s.extract 0 (s.size - 1)).size ≤ 900000000 := by rw [ByteArray.size_extract]; omega
  rw [spec_l12Words_t _ hex, qb_s]
  have hwsz := words_size (s.extract 0 (s.size - 1))
  obtain ⟨a, r, hw⟩ := words_ne (s.extract 0 (s.size - 1))
  rw [hw] at hwsz ⊢
  have hround : ∀ (i : Int) (n : Note) (x : ByteArray), idx noteNames i = some x → 0 ≤ i → i < 5 → roundK Tryd.prog cfg RN 5 5 35 7 0 (spec_NoteOf_S7 s false (a :: r) true noteNames i zeroN n) =
      some (.nrm, spec_NoteOf_S7 s false (a :: r) true noteNames (i + 1) zeroN (if a = x then ⟨i, n.who, n.domain, n.body, n.time⟩ else n)) := by
    intro i n x hx h0 h5
    rw [spec_NoteOf_round7, show idx (a :: r) 0 = some a from rfl, show decide (i < (noteNames.length : Int)) = true from decide_eq_true h5, br_t, qb_s, hx, qb_s, beq_bytes, wrap_id (by omega) (by omega)]
    by_cases he : a = x
    · rw [if_pos he, decide_eq_true he]; rfl
    · rw [if_neg he, decide_eq_false he]; rfl
  have hloop := lp_fold (P := Tryd.prog) (cfg := cfg) (T := RN) (n := 5) (d := 5) (f := 35) (r := 7) (na := 0) [1, 2, 3, 4] (kindStep a)
    (fun i n => spec_NoteOf_S7 s false (a :: r) true noteNames ((i + 1 : Nat) : Int) zeroN n) (fun n => (.ext 0, spec_NoteOf_O7 s false (a :: r) zeroN n)) (fun _ _ => True)
    (fun n _ => by rw [spec_NoteOf_round7]; rfl) (fun _ => rfl)
    (fun i k n hx hi _ => by
      refine ⟨?_, trivial⟩
      have hi4 : i < 4 := hi
      have : i = 0 ∨ i = 1 ∨ i = 2 ∨ i = 3 := by omega
      rcases this with rfl | rfl | rfl | rfl <;> (
        simp only [List.getElem?_cons_zero, List.getElem?_cons_succ, Option.some.injEq] at hx
        subst hx)
      · exact hround 1 n ⟨#[116, 97, 107, 101]⟩ rfl (by omega) (by omega)
      · exact hround 2 n ⟨#[116, 114, 121]⟩ rfl (by omega) (by omega)
      · exact hround 3 n ⟨#[103, 111, 110, 101]⟩ rfl (by omega) (by omega)
      · exact hround 4 n ⟨#[98, 97, 99, 107]⟩ rfl (by omega) (by omega)) zeroN 5 trivial (by decide)
  rw [kind_fold] at hloop
  refine (qb_run (spec_NoteOf_L7_of hloop)).trans ?_
  simp only [isRetE_e, isExt_e, br_t, br_f]
  have hall : ∀ x ∈ a :: r, x.size ≤ 900000000 := fun x hx => Nat.le_trans (hwsz x hx) hex
  have hz : (ByteArray.mk #[]).size ≤ 900000000 := by decide
  clear hloop hw hwsz hex hx hb
  have fin : ∀ n : Note, n.domain.size ≤ 900000000 → (qb (spec_NoteText_T n) fun x => br (!ByteArray.toList x == ByteArray.toList s) (some (Note.mk 0 0 (ByteArray.mk #[]) 0 0, false, PUnit.unit)) (some (n, true, PUnit.unit))) = some ((if noteText n = s then (n, true) else (zeroN, false)).1, (if noteText n = s then (n, true) else (zeroN, false)).2, ()) := by
    intro n hn
    rw [spec_NoteText_t n hn, qb_s, beq_bytes]
    by_cases he : noteText n = s
    · rw [if_pos he, decide_eq_true he]; rfl
    · rw [if_neg he, decide_eq_false he]; rfl
  have hk := kindOf_cases a
  rcases r with _ | ⟨b, _ | ⟨c, _ | ⟨d, _ | ⟨e, r⟩⟩⟩⟩
  · rw [show decide ((([a] : List ByteArray).length : Int) > 1) = false from rfl, show ((([a] : List ByteArray).length : Int) == 4) = false from rfl, show ((([a] : List ByteArray).length : Int) == 3) = false from rfl, show readS [a] = ⟨kindOf a, 0, ⟨#[]⟩, 0, 0⟩ from rfl]
    simp only [br_f, br_same]
    exact fin _ (by exact hz)
  · have n1 := spec_l12Num_t b (hall b (by simp))
    rw [show decide ((([a, b] : List ByteArray).length : Int) > 1) = true from rfl, show ((([a, b] : List ByteArray).length : Int) == 4) = false from rfl, show ((([a, b] : List ByteArray).length : Int) == 3) = false from rfl, show idx [a, b] 1 = some b from rfl, show readS [a, b] = ⟨kindOf a, num7 b, ⟨#[]⟩, 0, 0⟩ from rfl]
    simp only [br_f, br_t, br_same, qb_s, n1]
    exact fin _ (by exact hz)
  · have n1 := spec_l12Num_t b (hall b (by simp))
    have n2 := spec_l12Num_t c (hall c (by simp))
    rw [show decide ((([a, b, c] : List ByteArray).length : Int) > 1) = true from rfl, show ((([a, b, c] : List ByteArray).length : Int) == 4) = false from rfl, show ((([a, b, c] : List ByteArray).length : Int) == 3) = true from rfl, show idx [a, b, c] 1 = some b from rfl, show idx [a, b, c] 2 = some c from rfl, show readS [a, b, c] = ⟨kindOf a, num7 b, ⟨#[]⟩, 0, if kindOf a = 2 then num7 c else 0⟩ from rfl]
    simp only [br_f, br_t, br_same, qb_s, n1, n2]
    by_cases h2 : kindOf a = 2
    · rw [h2, if_pos rfl, show ((2 : Int) == 2) = true from rfl]
      simp only [br_f, br_t]
      exact fin _ (by exact hz)
    · rw [if_neg h2, show (kindOf a == 2) = false by rw [beq_int]; exact decide_eq_false h2]
      simp only [br_f, br_t, br_same]
      exact fin _ (by exact hz)
  · have n1 := spec_l12Num_t b (hall b (by simp))
    have n2 := spec_l12Num_t d (hall d (by simp))
    have hc := hall c (by simp)
    rw [show decide ((([a, b, c, d] : List ByteArray).length : Int) > 1) = true from rfl, show ((([a, b, c, d] : List ByteArray).length : Int) == 4) = true from rfl, show ((([a, b, c, d] : List ByteArray).length : Int) == 3) = false from rfl, show idx [a, b, c, d] 1 = some b from rfl, show idx [a, b, c, d] 2 = some c from rfl, show idx [a, b, c, d] 3 = some d from rfl, show readS [a, b, c, d] = ⟨kindOf a, num7 b, if kindOf a = 1 then c else ⟨#[]⟩, if kindOf a = 1 then num7 d else 0, 0⟩ from rfl]
    simp only [br_f, br_t, br_same, qb_s, n1, n2]
    by_cases h2 : kindOf a = 1
    · rw [h2, if_pos rfl, if_pos rfl, show ((1 : Int) == 1) = true from rfl]
      simp only [br_f, br_t, br_same]
      exact fin _ (by exact hc)
    · rw [if_neg h2, if_neg h2, show (kindOf a == 1) = false by rw [beq_int]; exact decide_eq_false h2]
      simp only [br_f, br_t, br_same]
      exact fin _ (by exact hz)
  · have n1 := spec_l12Num_t b (hall b (by simp))
    rw [show decide (((a :: b :: c :: d :: e :: r : List ByteArray).length : Int) > 1) = true by simp; omega, show (((a :: b :: c :: d :: e :: r : List ByteArray).length : Int) == 4) = false by rw [beq_int]; simp; omega, show (((a :: b :: c :: d :: e :: r : List ByteArray).length : Int) == 3) = false by rw [beq_int]; simp; omega, show idx (a :: b :: c :: d :: e :: r) 1 = some b from idx_nat (i := 1) rfl, show readS (a :: b :: c :: d :: e :: r) = ⟨kindOf a, num7 b, ⟨#[]⟩, 0, 0⟩ from rfl]
    simp only [br_f, br_t, br_same, qb_s, n1]
    exact fin _ (by exact hz)

theorem impl_NoteOf_t (s : ByteArray) (hs : s.size ≤ 900000000) : impl_NoteOf_T s = some ((noteOfI s).1, (noteOfI s).2, ()) := by
  refine impl_NoteOf_of 0 s ?_
  have hc := cutNl_size s
  have hsp : strings_Split_T (cutNl s) ⟨#[32]⟩ = some (words (cutNl s)) := Split_t (cutNl s) 32 (by omega)
  have hall : ∀ x ∈ words (cutNl s), x.size ≤ 900000000 := fun x hx => by have := words_size (cutNl s) x hx; omega
  have n1 : impl_noteNumber_T (words (cutNl s)) 1 = some (numAt (words (cutNl s)) 1) := impl_noteNumber_t _ 1 hall
  have n2 : impl_noteNumber_T (words (cutNl s)) 2 = some (numAt (words (cutNl s)) 2) := impl_noteNumber_t _ 2 hall
  have n3 : impl_noteNumber_T (words (cutNl s)) 3 = some (numAt (words (cutNl s)) 3) := impl_noteNumber_t _ 3 hall
  have hz : (ByteArray.mk #[]).size ≤ 900000000 := by decide
  unfold impl_NoteOf_R noteOfI
  rw [TrimNl_t s hs, qb_s, hsp, qb_s, n1, qb_s, n2, n3]
  have fin : ∀ n : Note, n.domain.size ≤ 900000000 → (qb (impl_NoteText_T n) fun x => br (ByteArray.toList x == ByteArray.toList (ByteArray.mk #[])) (some (Note.mk 0 0 (ByteArray.mk #[]) 0 0, false, PUnit.unit)) (br (!ByteArray.toList x == ByteArray.toList s) (some (Note.mk 0 0 (ByteArray.mk #[]) 0 0, false, PUnit.unit)) (some (n, true, PUnit.unit)))) =
      some ((if noteText n = ⟨#[]⟩ then (zeroN, false) else if noteText n = s then (n, true) else (zeroN, false)).1, (if noteText n = ⟨#[]⟩ then (zeroN, false) else if noteText n = s then (n, true) else (zeroN, false)).2, ()) := by
    intro n hn
    rw [impl_NoteText_t n hn, qb_s, beq_bytes, beq_bytes]
    by_cases h0 : noteText n = ⟨#[]⟩
    · rw [if_pos h0, decide_eq_true h0]; rfl
    · rw [if_neg h0, decide_eq_false h0, br_f]
      by_cases he : noteText n = s
      · rw [if_pos he, decide_eq_true he]; rfl
      · rw [if_neg he, decide_eq_false he]; rfl
  simp only [beq_bytes] at fin
  obtain ⟨a, r, hw⟩ := words_ne (cutNl s)
  rw [hw] at hall ⊢
  rw [show idx (a :: r) 0 = some a from rfl, qb_s]
  simp only [beq_bytes, qb_s]
  unfold readI
  simp only [List.headD_cons]
  by_cases h1 : a = ⟨#[116, 97, 107, 101]⟩
  · subst h1
    have hk : kindOf ⟨#[116, 97, 107, 101]⟩ = 1 := rfl
    simp only [hk, decide_true, br_t, if_true, show ¬ ((1 : Int) = 2) by decide, if_false]
    by_cases h2 : 2 < (⟨#[116, 97, 107, 101]⟩ :: r : List ByteArray).length
    · obtain ⟨x, hx⟩ : ∃ x, (⟨#[116, 97, 107, 101]⟩ :: r : List ByteArray)[2]? = some x := ⟨_, List.getElem?_eq_getElem h2⟩
      rw [show decide (((⟨#[116, 97, 107, 101]⟩ :: r : List ByteArray).length : Int) > 2) = true from decide_eq_true (by omega), br_t, show idx (⟨#[116, 97, 107, 101]⟩ :: r : List ByteArray) 2 = some x from idx_nat (i := 2) hx, qb_s, List.getD_eq_getElem?_getD, hx]
      exact fin _ (by exact hall x (List.mem_of_getElem? hx))
    · rw [show decide (((⟨#[116, 97, 107, 101]⟩ :: r : List ByteArray).length : Int) > 2) = false from decide_eq_false (by omega), br_f, List.getD_eq_getElem?_getD, List.getElem?_eq_none (by omega)]
      exact fin _ (by exact hz)
  · by_cases h2 : a = ⟨#[116, 114, 121]⟩
    · subst h2
      have hk : kindOf ⟨#[116, 114, 121]⟩ = 2 := rfl
      simp only [hk, h1, decide_false, decide_true, br_t, br_f, if_true, show ¬ ((2 : Int) = 1) by decide, if_false]
      exact fin _ (by exact hz)
    · by_cases h3 : a = ⟨#[103, 111, 110, 101]⟩
      · subst h3
        have hk : kindOf ⟨#[103, 111, 110, 101]⟩ = 3 := rfl
        simp only [hk, h1, h2, decide_false, decide_true, br_t, br_f, show ¬ ((3 : Int) = 1) by decide, show ¬ ((3 : Int) = 2) by decide, if_false]
        exact fin _ (by exact hz)
      · by_cases h4 : a = ⟨#[98, 97, 99, 107]⟩
        · subst h4
          have hk : kindOf ⟨#[98, 97, 99, 107]⟩ = 4 := rfl
          simp only [hk, h1, h2, h3, decide_false, decide_true, br_t, br_f, show ¬ ((4 : Int) = 1) by decide, show ¬ ((4 : Int) = 2) by decide, if_false]
          exact fin _ (by exact hz)
        · have hk : kindOf a = 0 := by unfold kindOf; rw [if_neg h4, if_neg h3, if_neg h2, if_neg h1]
          simp only [hk, h1, h2, h3, h4, decide_false, br_f, show ¬ ((0 : Int) = 1) by decide, show ¬ ((0 : Int) = 2) by decide, if_false]
          exact fin _ (by exact hz)

end Go.Proofs.YtoebfbhcbpiheaaDoor
