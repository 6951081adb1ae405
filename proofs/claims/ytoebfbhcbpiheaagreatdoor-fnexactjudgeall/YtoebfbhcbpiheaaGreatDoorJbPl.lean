/-
  Books of notes.
-/
import Derived.Test.YtoebfbhcbpiheaaGreatDoorJbNf
import Derived.Test.YtoebfbhcbpiheaaGreatDoorVm6
namespace Go.Proofs.YtoebfbhcbpiheaaGreatDoor
open Go.Vm
set_option linter.unusedVariables false
set_option linter.unusedSimpArgs false

theorem spec_l1Min_t (a b : Int) : spec_l1Min_T a b = some (if a < b then a else b) := by
  refine spec_l1Min_of 0 a b ?_
  unfold spec_l1Min_R
  by_cases h : a < b
  · rw [decide_eq_true h, if_pos h]; rfl
  · rw [decide_eq_false h, if_neg h]; rfl

theorem spec_LetterTry_t (l : Letter) (now : Int) (hs : l.domain.size ≤ 900000000) : spec_LetterTry_T l now = some ((letterTry l now).1, (letterTry l now).2, ()) := by
  refine spec_LetterTry_of 0 l now ?_
  unfold spec_LetterTry_R letterTry isTime
  simp only [spec_LetterOk_t l hs, spec_l1In_t, spec_l1Min_t, qb_s, br_if]
  cases hok : letterOk l with
  | false => simp
  | true =>
    obtain ⟨_, _, _, _, t0, t4, n0, n1⟩ := letterOk_spec hok
    by_cases h1 : l.state = 1
    · by_cases h2 : l.next ≤ now
      · by_cases h3 : now ≤ 100000
        · by_cases h4 : l.tries = 4
          · simp [h1, h2, h3, h4]
          · obtain ⟨p1, p2, p3, p4, p5⟩ := try_pow t0 (by omega)
            rw [p1, p2, p3, wrap_id (by omega) (by omega)]
            have h5 : l.tries < 4 := by omega
            have h6 : 0 ≤ now := by omega
            by_cases h7 : 100000 < now + 10 * 2 ^ (l.tries + 1).toNat
            · have h8 : min 100000 (now + 10 * 2 ^ (l.tries + 1).toNat) = 100000 := by omega
              simp [h1, h2, h3, h4, h5, h6, h7, h8, qb_s]
            · have h8 : min 100000 (now + 10 * 2 ^ (l.tries + 1).toNat) = now + 10 * 2 ^ (l.tries + 1).toNat := by omega
              simp [h1, h2, h3, h4, h5, h6, h7, h8, qb_s]
        · simp [h1, h2, h3]
      · simp [h1, h2]
    · simp [h1]

theorem spec_LetterEnd_t (l : Letter) (g : Bool) : spec_LetterEnd_T l g = some (letterEnd l g) := by
  refine spec_LetterEnd_of 0 l g ?_
  unfold spec_LetterEnd_R letterEnd
  rw [bne_int]
  by_cases h : l.state = 1
  · rw [decide_eq_true h, if_pos h]; cases g <;> rfl
  · rw [decide_eq_false h, if_neg h]; rfl
theorem impl_LetterTry_t (l : Letter) (now : Int) (hs : l.domain.size ≤ 900000000) : impl_LetterTry_T l now = some ((letterTry l now).1, (letterTry l now).2, ()) := by
  refine impl_LetterTry_of 0 l now ?_
  unfold impl_LetterTry_R letterTry isTime
  simp only [impl_LetterOk_t l hs, impl_isTime_t, isTime, qb_s, br_if, cond_false]
  cases hok : letterOk l with
  | false => simp
  | true =>
    obtain ⟨_, _, _, _, t0, t4, n0, n1⟩ := letterOk_spec hok
    by_cases h1 : l.state = 1
    · by_cases h6 : 0 ≤ now
      · by_cases h3 : now ≤ 100000
        · by_cases h2 : l.next ≤ now
          · have h2' : ¬ now < l.next := by omega
            by_cases h4 : l.tries = 4
            · simp [h1, h2, h3, h4, h6, h2']
            · obtain ⟨p1, p2, p3, p4, p5⟩ := try_pow t0 (by omega)
              rw [p1, p2, p3, wrap_id (by omega) (by omega)]
              have h5 : l.tries < 4 := by omega
              by_cases h7 : now + 10 * 2 ^ (l.tries + 1).toNat < 100000
              · have h8 : min 100000 (now + 10 * 2 ^ (l.tries + 1).toNat) = now + 10 * 2 ^ (l.tries + 1).toNat := by omega
                simp [h1, h2, h2', h3, h4, h5, h6, h7, h8, qb_s]
              · have h8 : min 100000 (now + 10 * 2 ^ (l.tries + 1).toNat) = 100000 := by omega
                simp [h1, h2, h2', h3, h4, h5, h6, h7, h8, qb_s]
          · have h2' : now < l.next := by omega
            simp [h1, h2, h3, h6, h2']
        · simp [h1, h3, h6]
      · simp [h1, h6]
    · simp [h1]

theorem impl_LetterEnd_t (l : Letter) (g : Bool) : impl_LetterEnd_T l g = some (letterEnd l g) := by
  refine impl_LetterEnd_of 0 l g ?_
  unfold impl_LetterEnd_R letterEnd
  rw [bne_int]
  by_cases h : l.state = 1
  · rw [decide_eq_true h, if_pos h]; cases g <;> rfl
  · rw [decide_eq_false h, if_neg h]; rfl
theorem spec_Play_t (l : List Note) (hl : l.length ≤ 1000000000) (hd : ∀ n ∈ l, n.domain.size ≤ 900000000) : spec_Play_T l = some (play l) := by
  refine spec_Play_of (l.length + 1) l ?_
  unfold spec_Play_R
  have hloop := lp_fold (P := Tryz.prog) (cfg := cfg) (T := RN) (n := l.length + 1) (d := 5) (f := 119) (r := 3) (na := 0) l playStep (fun i a => spec_Play_S3 false l a i) (fun a => (.ext 0, spec_Play_O3 a)) (fun i a => a.length ≤ i ∧ ∀ x ∈ a, x.domain.size ≤ 900000000)
    (fun a _ => by rw [spec_Play_round3, lt_self]; rfl) (fun _ => rfl)
    (fun i y a hx hi hinv => by
      obtain ⟨h1, h2⟩ := hinv
      have hy := hd y (List.mem_of_getElem? hx)
      refine ⟨?_, playStep_inv hy h1 h2⟩
      rw [spec_Play_round3, lt_t hi, idx_nat hx, wrap_succ (by omega)]
      simp only [br_t, qb_s, spec_NoteOk_t y hy]
      unfold playStep
      cases hok : noteOk y with
      | false => rfl
      | true =>
        obtain ⟨⟨w0, w1⟩, _, _⟩ := noteOk_nums hok
        have happ : Nat.ble (a.length + 1) appMax = true := by rw [Nat.ble_eq, appMax]; omega
        simp only [Bool.not_true, br_f, if_true, List.length_cons, List.length_nil, Nat.zero_add, happ, br_t, beq_int]
        by_cases k1 : y.kind = 1
        · rw [if_pos k1, decide_eq_true k1, br_t]
          by_cases hw : y.who = (a.length : Int)
          · rw [if_pos hw, decide_eq_true hw]; rfl
          · rw [if_neg hw, decide_eq_false hw]; rfl
        · rw [if_neg k1, decide_eq_false k1, br_f]
          by_cases hw : y.who ≥ (a.length : Int)
          · rw [decide_eq_true hw, br_t, List.getElem?_eq_none (by omega)]
          · obtain ⟨x, hx⟩ : ∃ x, a[y.who.toNat]? = some x := ⟨_, List.getElem?_eq_getElem (by omega)⟩
            have hix : idx a y.who = some x := by
              rw [show y.who = ((y.who.toNat : Nat) : Int) by omega]
              exact idx_nat hx
            have hxd := h2 x (List.mem_of_getElem? hx)
            rw [decide_eq_false hw, br_f, hix, qb_s, hx, qb_s]
            simp only [qb_s]
            by_cases k2 : y.kind = 2
            · rw [if_pos k2, decide_eq_true k2, br_t, spec_LetterTry_t x y.time hxd, qb_s]
            · rw [if_neg k2, decide_eq_false k2, br_f, spec_LetterEnd_t x, qb_s]) [] (l.length + 1) ⟨by simp, by simp⟩ (by omega)
  exact (qb_run (spec_Play_L3_of hloop)).trans rfl
theorem impl_Play_t (l : List Note) (hl : l.length ≤ 1000000000) (hd : ∀ n ∈ l, n.domain.size ≤ 900000000) : impl_Play_T l = some (play l) := by
  refine impl_Play_of (l.length + 1) l ?_
  unfold impl_Play_R
  have hloop := lp_fold (P := Tryz.prog) (cfg := cfg) (T := RN) (n := l.length + 1) (d := 5) (f := 122) (r := 3) (na := 0) l playStep (fun i a => impl_Play_S3 a false l l.length i) (fun a => (.ext 0, impl_Play_O3 a)) (fun i a => a.length ≤ i ∧ ∀ x ∈ a, x.domain.size ≤ 900000000)
    (fun a _ => by rw [impl_Play_round3, lt_self]; rfl) (fun _ => rfl)
    (fun i y a hx hi hinv => by
      obtain ⟨h1, h2⟩ := hinv
      have hy := hd y (List.mem_of_getElem? hx)
      refine ⟨?_, playStep_inv hy h1 h2⟩
      rw [impl_Play_round3, lt_t hi, idx_nat hx, wrap_succ (by omega)]
      simp only [br_t, qb_s, impl_NoteOk_t y hy]
      unfold playStep
      cases hok : noteOk y with
      | false => rfl
      | true =>
        obtain ⟨⟨w0, w1⟩, _, _⟩ := noteOk_nums hok
        have happ : Nat.ble (a.length + 1) appMax = true := by rw [Nat.ble_eq, appMax]; omega
        simp only [Bool.not_true, br_f, if_true, List.length_cons, List.length_nil, Nat.zero_add, happ, br_t, beq_int]
        by_cases k1 : y.kind = 1
        · rw [if_pos k1, decide_eq_true k1, br_t]
          by_cases hw : y.who = (a.length : Int)
          · rw [if_pos hw, decide_eq_true hw]; rfl
          · rw [if_neg hw, decide_eq_false hw]; rfl
        · rw [if_neg k1, decide_eq_false k1, br_f]
          by_cases hw : y.who ≥ (a.length : Int)
          · rw [decide_eq_true hw, br_t, List.getElem?_eq_none (by omega)]
          · obtain ⟨x, hx⟩ : ∃ x, a[y.who.toNat]? = some x := ⟨_, List.getElem?_eq_getElem (by omega)⟩
            have hix : idx a y.who = some x := by
              rw [show y.who = ((y.who.toNat : Nat) : Int) by omega]
              exact idx_nat hx
            have hxd := h2 x (List.mem_of_getElem? hx)
            rw [decide_eq_false hw, br_f, hix, qb_s, hx, qb_s]
            simp only [qb_s]
            by_cases k2 : y.kind = 2
            · rw [if_pos k2, decide_eq_true k2, br_t, impl_LetterTry_t x y.time hxd, qb_s]
            · rw [if_neg k2, decide_eq_false k2, br_f, impl_LetterEnd_t x, qb_s]) [] (l.length + 1) ⟨by simp, by simp⟩ (by omega)
  exact (qb_run (impl_Play_L3_of hloop)).trans rfl
theorem spec_Notes_loop (s : ByteArray) (hs : s.size ≤ 900000000) (N : Nat) : ∀ (m i frm f : Nat) (out : List Note) (q : Nat), s.size - i = m → frm ≤ i → i ≤ s.size → s.size - frm < f → out.length ≤ frm → m < q →
    (∀ j, frm ≤ j → j < i → ∀ b, s.data.toList[j]? = some b → b ≠ 10) →
    lp Tryz.prog cfg RN N 5 118 4 0 q (spec_Notes_S4 s out frm i) = some (.ext 0, spec_Notes_O4 (notesGo f s frm out).1 (notesGo f s frm out).2) := by
  intro m
  induction m with
  | zero =>
    intro i frm f out q hm h1 h2 hf hout hq hno
    have hi : i = s.size := by omega
    subst hi
    obtain ⟨q, rfl⟩ : ∃ q', q = q' + 1 := ⟨q - 1, by omega⟩
    obtain ⟨f, rfl⟩ : ∃ f', f = f' + 1 := ⟨f - 1, by omega⟩
    have hn : nlIdx (s.data.toList.drop frm) = none := nlIdx_none fun j hj b hb => hno j hj (by
      rcases Nat.lt_or_ge j s.size with h' | h'
      · exact h'
      · rw [List.getElem?_eq_none (by rw [bytes_len]; omega)] at hb; cases hb) b hb
    refine lp_out ?_ rfl
    rw [spec_Notes_round4, lt_self, br_f]
    unfold notesGo
    rw [hn]
  | succ m ih =>
    intro i frm f out q hm h1 h2 hf hout hq hno
    obtain ⟨q, rfl⟩ : ∃ q', q = q' + 1 := ⟨q - 1, by omega⟩
    obtain ⟨b, hb⟩ : ∃ b, s.data.toList[i]? = some b := ⟨_, List.getElem?_eq_getElem (by rw [bytes_len]; omega)⟩
    have hround := spec_Notes_round4 N s out frm i
    rw [show decide ((i : Int) < (s.size : Int)) = true from decide_eq_true (by omega), br_t, byteAt_nat (bytes_get hb), qb_s, wrap_succ (by omega), bne_int] at hround
    by_cases h10 : b = 10
    · subst h10
      rw [show decide ((((10 : UInt8).toNat : Nat) : Int) = 10) = true from rfl, Bool.not_true, br_f] at hround
      rw [bnds_nat (n := s.size) (f := frm) (i := i + 1) (by omega) (by omega), qb_s, spec_NoteOf_t _ (by rw [ByteArray.size_extract]; omega), qb_s, noteOf_eq] at hround
      obtain ⟨f, rfl⟩ : ∃ f', f = f' + 1 := ⟨f - 1, by omega⟩
      have hx := nlIdx_at h1 hno hb
      have hgo : notesGo (f + 1) s frm out = if (noteOfI (s.extract frm (i + 1))).2 = true then notesGo f s (i + 1) (out ++ [(noteOfI (s.extract frm (i + 1))).1]) else (out, frm) := by
        rw [notesGo, hx]
        simp only
        rw [show frm + (i - frm) + 1 = i + 1 by omega]
      rw [hgo]
      simp only at hround
      cases hok : (noteOfI (s.extract frm (i + 1))).2 with
      | false =>
        rw [hok, Bool.not_false, br_t] at hround
        exact lp_out hround rfl
      | true =>
        have happ : Nat.ble (out.length + 1) appMax = true := by rw [Nat.ble_eq, appMax]; omega
        rw [hok, Bool.not_true, br_f] at hround
        simp only [List.length_cons, List.length_nil, Nat.zero_add, happ, br_t] at hround
        rw [if_pos rfl]
        refine lp_next hround ?_
        exact ih (i + 1) (i + 1) f _ q (by omega) (by omega) (by omega) (by omega) (by simp; omega) (by omega) (fun j hj hj2 => by omega)
    · rw [show decide (((b.toNat : Nat) : Int) = 10) = false from decide_eq_false fun e => h10 (UInt8.toNat_inj.1 (by have : (10 : UInt8).toNat = 10 := rfl; omega)), Bool.not_false, br_t] at hround
      refine lp_next hround ?_
      refine ih (i + 1) frm f out q (by omega) (by omega) (by omega) hf hout (by omega) ?_
      intro j hj hj2 c hc
      by_cases hji : j = i
      · subst hji
        rw [hb] at hc
        cases hc
        exact h10
      · exact hno j hj (by omega) c hc

theorem spec_Notes_t (s : ByteArray) (hs : s.size ≤ 900000000) : spec_Notes_T s = some ((notes s).1, ((notes s).2 : Int), ()) := by
  refine spec_Notes_of (s.size + 1) s ?_
  unfold spec_Notes_R
  have hloop := spec_Notes_loop s hs (s.size + 1) s.size 0 0 (s.size + 1) [] (s.size + 1) (by omega) (by omega) (by omega) (by omega) (by simp) (by omega) (fun j hj hj2 => by omega)
  exact (qb_run (spec_Notes_L4_of hloop)).trans rfl
theorem IndexNl_t (s : ByteArray) : strings_IndexByte_T s 10 = some (nlInt (nlIdx s.data.toList)) := by
  have h : RN 186 [.str s, .c (.f (.sc (.int .u8 10)))] [] = some (.int (Lib.indexByte s.data.toList 10), [], []) := by
    refine rn_ext (g := extIndexByte) rfl ?_
    rfl
  rw [← indexByte_nl]
  unfold strings_IndexByte_T presT
  rw [pres_f h]
  rfl
theorem extract_drop {s : ByteArray} {a : Nat} (h : a ≤ s.size) : (s.extract a s.size).data.toList = s.data.toList.drop a := by
  rw [ByteArray.data_extract, Array.toList_extract, List.extract_eq_take_drop]
  rw [List.take_of_length_le (by rw [List.length_drop, bytes_len]; omega)]

theorem impl_Notes_loop (s : ByteArray) (hs : s.size ≤ 900000000) (N : Nat) : ∀ (f frm : Nat) (out : List Note) (q : Nat), frm ≤ s.size → s.size - frm < f → out.length ≤ frm → f ≤ q →
    lp Tryz.prog cfg RN N 5 120 3 0 q (impl_Notes_S3 s [] 0 out frm) = some (.ret, impl_Notes_O3 (notesGo f s frm out).1 (notesGo f s frm out).2) := by
  intro f
  induction f with
  | zero => intro frm out q h1 h2; omega
  | succ f ih =>
    intro frm out q h1 h2 hout hq
    obtain ⟨q, rfl⟩ : ∃ q', q = q' + 1 := ⟨q - 1, by omega⟩
    have hround := impl_Notes_round3 N s [] 0 out frm
    rw [bnds_tail h1, qb_s, IndexNl_t, qb_s, extract_drop h1] at hround
    rw [notesGo]
    cases hx : nlIdx (s.data.toList.drop frm) with
    | none =>
      rw [hx] at hround
      exact lp_out (by rw [hround]; rfl) rfl
    | some k =>
      have hk := nlIdx_some hx
      rw [List.length_drop, bytes_len] at hk
      rw [hx] at hround
      rw [show nlInt (some k) = (k : Int) from rfl] at hround
      rw [show decide (((k : Nat) : Int) < 0) = false from decide_eq_false (by omega), br_f, wrap_id (i := (frm : Int) + (k : Int)) (by omega) (by omega), wrap_id (i := (frm : Int) + (k : Int) + 1) (by omega) (by omega), wrap_id (i := (k : Int) + 1) (by omega) (by omega), wrap_id (i := (frm : Int) + ((k : Int) + 1)) (by omega) (by omega), show (frm : Int) + (k : Int) + 1 = ((frm + k + 1 : Nat) : Int) by omega, show (frm : Int) + ((k : Int) + 1) = ((frm + k + 1 : Nat) : Int) by omega] at hround
      rw [bnds_nat (n := s.size) (f := frm) (i := frm + k + 1) (by omega) (by omega), qb_s, impl_NoteOf_t _ (by rw [ByteArray.size_extract]; omega), qb_s] at hround
      simp only at hround
      simp only
      cases hok : (noteOfI (s.extract frm (frm + k + 1))).2 with
      | false =>
        rw [hok, Bool.not_false, br_t] at hround
        exact lp_out hround rfl
      | true =>
        have happ : Nat.ble (out.length + 1) appMax = true := by rw [Nat.ble_eq, appMax]; omega
        rw [hok, Bool.not_true, br_f] at hround
        simp only [List.length_cons, List.length_nil, Nat.zero_add, happ, br_t] at hround
        rw [if_pos rfl]
        refine lp_next hround ?_
        exact ih (frm + k + 1) _ q (by omega) (by omega) (by simp; omega) (by omega)

theorem impl_Notes_t (s : ByteArray) (hs : s.size ≤ 900000000) : impl_Notes_T s = some ((notes s).1, ((notes s).2 : Int), ()) := by
  refine impl_Notes_of (s.size + 1) s ?_
  unfold impl_Notes_R
  have hloop := impl_Notes_loop s hs (s.size + 1) (s.size + 1) 0 [] (s.size + 1) (by omega) (by omega) (by simp) (by omega)
  exact (qb_run (impl_Notes_L3_of hloop)).trans rfl
end Go.Proofs.YtoebfbhcbpiheaaGreatDoor
