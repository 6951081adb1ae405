/-
  Books of notes.
-/
import Derived.Test.YtoebfbhcbpiheaaDoorNsNf
import Derived.Test.YtoebfbhcbpiheaaDoorVm6
namespace Go.Proofs.YtoebfbhcbpiheaaDoor
open Go.Vm
set_option linter.unusedVariables false
set_option linter.unusedSimpArgs false

theorem spec_Notes_loop (s : ByteArray) (hs : s.size ≤ 900000000) (N : Nat) : ∀ (m i frm f : Nat) (out : List Note) (q : Nat), s.size - i = m → frm ≤ i → i ≤ s.size → s.size - frm < f → out.length ≤ frm → m < q →
    (∀ j, frm ≤ j → j < i → ∀ b, s.data.toList[j]? = some b → b ≠ 10) →
    lp Tryd.prog cfg RN N 5 12 4 0 q (spec_Notes_S4 s out frm i) = some (.ext 0, spec_Notes_O4 (notesGo f s frm out).1 (notesGo f s frm out).2) := by
  intro m
  induction m with
  | zero =>
    intro i frm f out q hm h1 h2 hf hout hq hno
    have hi : i = s.size := by omega
    subst hi
    obtain ⟨q, rfl⟩ : ∃ q', q = q' + 1 := ⟨q - 1, by omega⟩
    obtain ⟨f, rfl⟩ : ∃ f', f = f' + 1 := ⟨f - 1, by omega⟩
    have hn : nlIdx (s.data.toList.drop frm) = none := nlIdx_none fun j hj b hb => hno j hj (by
      rcases Nat.lt_or_ge j s.size with h' | h'
      · exact h'
      · rw [List.getElem?_eq_none (by rw [bytes_len]; omega)] at hb; cases hb) b hb
    refine lp_out ?_ rfl
    rw [spec_Notes_round4, lt_self, br_f]
    unfold notesGo
    rw [hn]
  | succ m ih =>
    intro i frm f out q hm h1 h2 hf hout hq hno
    obtain ⟨q, rfl⟩ : ∃ q', q = q' + 1 := ⟨q - 1, by omega⟩
    obtain ⟨b, hb⟩ : ∃ b, s.data.toList[i]? = some b := ⟨_, List.getElem?_eq_getElem (by rw [bytes_len]; omega)⟩
    have hround := spec_Notes_round4 N s out frm i
    rw [show decide ((i : Int) < (s.size : Int)) = true from decide_eq_true (by omega), br_t, byteAt_nat (bytes_get hb), qb_s, wrap_succ (by omega), bne_int] at hround
    by_cases h10 : b = 10
    · subst h10
      rw [show decide ((((10 : UInt8).toNat : Nat) : Int) = 10) = true from rfl, Bool.not_true, br_f] at hround
      rw [bnds_nat (n := s.size) (f := frm) (i := i + 1) (by omega) (by omega), qb_s, spec_NoteOf_t _ (by rw [ByteArray.size_extract]; omega), qb_s, noteOf_eq] at hround
      obtain ⟨f, rfl⟩ : ∃ f', f = f' + 1 := ⟨f - 1, by omega⟩
      have hx := nlIdx_at h1 hno hb
      have hgo : notesGo (f + 1) s frm out = if (noteOfI (s.extract frm (i + 1))).2 = true then notesGo f s (i + 1) (out ++ [(noteOfI (s.extract frm (i + 1))).1]) else (out, frm) := by
        rw [notesGo, hx]
        simp only
        rw [show frm + (i - frm) + 1 = i + 1 by omega]
      rw [hgo]
      simp only at hround
      cases hok : (noteOfI (s.extract frm (i + 1))).2 with
      | false =>
        rw [hok, Bool.not_false, br_t] at hround
        exact lp_out hround rfl
      | true =>
        have happ : Nat.ble (out.length + 1) appMax = true := by rw [Nat.ble_eq, appMax]; omega
        rw [hok, Bool.not_true, br_f] at hround
        simp only [List.length_cons, List.length_nil, Nat.zero_add, happ, br_t] at hround
        rw [if_pos rfl]
        refine lp_next hround ?_
        exact ih (i + 1) (i + 1) f _ q (by omega) (by omega) (by omega) (by omega) (by simp; omega) (by omega) (fun j hj hj2 => by omega)
    · rw [show decide (((b.toNat : Nat) : Int) = 10) = false from decide_eq_false fun e => h10 (UInt8.toNat_inj.1 (by have : (10 : UInt8).toNat = 10 := rfl; omega)), Bool.not_false, br_t] at hround
      refine lp_next hround ?_
      refine ih (i + 1) frm f out q (by omega) (by omega) (by omega) hf hout (by omega) ?_
      intro j hj hj2 c hc
      by_cases hji : j = i
      · subst hji
        rw [hb] at hc
        cases hc
        exact h10
      · exact hno j hj (by omega) c hc

theorem spec_Notes_t (s : ByteArray) (hs : s.size ≤ 900000000) : spec_Notes_T s = some ((notes s).1, ((notes s).2 : Int), ()) := by
  refine spec_Notes_of (s.size + 1) s ?_
  unfold spec_Notes_R
  have hloop := spec_Notes_loop s hs (s.size + 1) s.size 0 0 (s.size + 1) [] (s.size + 1) (by omega) (by omega) (by omega) (by omega) (by simp) (by omega) (fun j hj hj2 => by omega)
  exact (qb_run (spec_Notes_L4_of hloop)).trans rfl
theorem IndexNl_t (s : ByteArray) : strings_IndexByte_T s 10 = some (nlInt (nlIdx s.data.toList)) := by
  have h : RN 36 [.str s, .c (.f (.sc (.int .u8 10)))] [] = some (.int (Lib.indexByte s.data.toList 10), [], []) := by
    refine rn_ext (g := extIndexByte) rfl ?_
    rfl
  rw [← indexByte_nl]
  unfold strings_IndexByte_T presT
  rw [pres_f h]
  rfl
theorem extract_drop {s : ByteArray} {a : Nat} (h : a ≤ s.size) : (s.extract a s.size).data.toList = s.data.toList.drop a := by
  rw [ByteArray.data_extract, Array.toList_extract, List.extract_eq_take_drop]
  rw [List.take_of_length_le (by rw [List.length_drop, bytes_len]; omega)]

theorem impl_Notes_loop (s : ByteArray) (hs : s.size ≤ 900000000) (N : Nat) : ∀ (f frm : Nat) (out : List Note) (q : Nat), frm ≤ s.size → s.size - frm < f → out.length ≤ frm → f ≤ q →
    lp Tryd.prog cfg RN N 4 13 3 0 q (impl_Notes_S3 s [] 0 out frm) = some (.ret, impl_Notes_O3 (notesGo f s frm out).1 (notesGo f s frm out).2) := by
  intro f
  induction f with
  | zero => intro frm out q h1 h2; omega
  | succ f ih =>
    intro frm out q h1 h2 hout hq
    obtain ⟨q, rfl⟩ : ∃ q', q = q' + 1 := ⟨q - 1, by omega⟩
    have hround := impl_Notes_round3 N s [] 0 out frm
    rw [bnds_tail h1, qb_s, IndexNl_t, qb_s, extract_drop h1] at hround
    rw [notesGo]
    cases hx : nlIdx (s.data.toList.drop frm) with
    | none =>
      rw [hx] at hround
      exact lp_out (by rw [hround]; rfl) rfl
    | some k =>
      have hk := nlIdx_some hx
      rw [List.length_drop, bytes_len] at hk
      rw [hx] at hround
      rw [show nlInt (some k) = (k : Int) from rfl] at hround
      rw [show decide (((k : Nat) : Int) < 0) = false from decide_eq_false (by omega), br_f, wrap_id (i := (frm : Int) + (k : Int)) (by omega) (by omega), wrap_id (i := (frm : Int) + (k : Int) + 1) (by omega) (by omega), wrap_id (i := (k : Int) + 1) (by omega) (by omega), wrap_id (i := (frm : Int) + ((k : Int) + 1)) (by omega) (by omega), show (frm : Int) + (k : Int) + 1 = ((frm + k + 1 : Nat) : Int) by omega, show (frm : Int) + ((k : Int) + 1) = ((frm + k + 1 : Nat) : Int) by omega] at hround
      rw [bnds_nat (n := s.size) (f := frm) (i := frm + k + 1) (by omega) (by omega), qb_s, impl_NoteOf_t _ (by rw [ByteArray.size_extract]; omega), qb_s] at hround
      simp only at hround
      simp only
      cases hok : (noteOfI (s.extract frm (frm + k + 1))).2 with
      | false =>
        rw [hok, Bool.not_false, br_t] at hround
        exact lp_out hround rfl
      | true =>
        have happ : Nat.ble (out.length + 1) appMax = true := by rw [Nat.ble_eq, appMax]; omega
        rw [hok, Bool.not_true, br_f] at hround
        simp only [List.length_cons, List.length_nil, Nat.zero_add, happ, br_t] at hround
        rw [if_pos rfl]
        refine lp_next hround ?_
        exact ih (frm + k + 1) _ q (by omega) (by omega) (by simp; omega) (by omega)

end Go.Proofs.YtoebfbhcbpiheaaDoor
