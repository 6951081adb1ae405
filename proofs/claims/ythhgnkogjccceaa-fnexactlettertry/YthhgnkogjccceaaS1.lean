/-
  Domains, letters, notes: what both sides come to.
-/
import Derived.Test.YthhgnkogjccceaaHelp
namespace Go.Proofs.Ythhgnkogjccceaa
open Go.Vm
set_option linter.unusedVariables false
set_option linter.unusedSimpArgs false

theorem spec_l6Domain_rn (s : ByteArray) (hs : s.size ≤ 9223372036854775807) : RN 35 [.str s] [] = some (.bool (domOk s), [], []) := by
  refine rn_of_resid (n := s.size + 1) ?_
  rw [spec_l6Domain_res]
  have hlen := bytes_len s
  have hloop := lp_list (P := Try.prog) (cfg := cfg) (T := RN) (n := s.size + 1) (d := 5) (f := 35) (r := 2) (na := 0) s.data.toList
      (fun _ b (_ : Unit) => if isLow b = true then (.inl () : Unit ⊕ Unit) else .inr ())
      (fun i _ => ⟨frOf [(0, .str s), (2, .bool false), (3, .int i)], hpIds []⟩)
      (fun _ => (.ext 0, ⟨frOf [(0, .str s), (2, .bool false)], hpIds []⟩)) (fun _ => (.ret, ⟨frOf [(0, .str s), (2, .bool false)], hpIds []⟩)) (fun _ _ => True)
      (fun _ _ => by rw [spec_l6Domain_round2, hlen, lt_self]; rfl) (fun _ => rfl) (fun _ => rfl)
      (fun i b _ hx hi _ => by
        rw [hlen] at hi
        rw [spec_l6Domain_round2, lt_t hi]
        simp only [br, qb, byteAt_nat (bytes_get hx)]
        by_cases h1 : b.toNat < 97
        · rw [show decide ((b.toNat : Int) < 97) = true by simp; omega]
          simp [isLow, h1]
        · rw [show decide ((b.toNat : Int) < 97) = false by simp; omega]
          simp only
          by_cases h2 : b.toNat > 122
          · rw [show decide ((b.toNat : Int) > 122) = true by simp; omega]
            simp [isLow, h1, h2]
          · rw [show decide ((b.toNat : Int) > 122) = false by simp; omega, wrap_succ (by omega)]
            simp [isLow, h1, h2])
      (fun _ _ _ _ _ _ _ _ => trivial) () (s.size + 1) trivial (by omega)
  refine (qb_run hloop).trans ?_
  rw [lfold_all]
  unfold domOk
  cases s.data.toList.all isLow with
  | false => rfl
  | true =>
    show (br (decide ((s.size : Int) ≥ 1)) (some (V.bool (decide ((s.size : Int) ≤ 10)), [], [])) (some (V.bool false, [], [])) : Option (V × List Vm.Obj × List Vm.Obj)) = _
    by_cases h1 : 1 ≤ s.size
    · rw [show decide ((s.size : Int) ≥ 1) = true by simp; omega]
      by_cases h2 : s.size ≤ 10
      · simp [br, h1, h2]; omega
      · simp [br, h1, h2]; omega
    · rw [show decide ((s.size : Int) ≥ 1) = false by simp; omega]
      simp [br, h1]

theorem impl_domainOk_rn (s : ByteArray) (hs : s.size ≤ 9223372036854775807) : RN 37 [.str s] [] = some (.bool (domOk s), [], []) := by
  refine rn_of_resid (n := s.size + 1) ?_
  rw [impl_domainOk_res]
  have hlen := bytes_len s
  have hloop := lp_list (P := Try.prog) (cfg := cfg) (T := RN) (n := s.size + 1) (d := 5) (f := 37) (r := 2) (na := 0) s.data.toList
      (fun _ b (_ : Unit) => if isLow b = true then (.inl () : Unit ⊕ Unit) else .inr ())
      (fun i _ => ⟨frOf [(0, .str s), (2, .bool false), (5, .int s.size), (6, .int i)], hpIds []⟩)
      (fun _ => (.ext 0, ⟨frOf [(0, .str s), (2, .bool false)], hpIds []⟩)) (fun _ => (.ret, ⟨frOf [(0, .str s), (2, .bool false)], hpIds []⟩)) (fun _ _ => True)
      (fun _ _ => by rw [impl_domainOk_round2, hlen, lt_self]; rfl) (fun _ => rfl) (fun _ => rfl)
      (fun i b _ hx hi _ => by
        rw [hlen] at hi
        rw [impl_domainOk_round2, lt_t hi]
        simp only [br, qb, byteAt_nat (bytes_get hx)]
        by_cases h1 : b.toNat < 97
        · rw [show decide ((b.toNat : Int) < 97) = true by simp; omega]
          simp [isLow, h1]
        · rw [show decide ((b.toNat : Int) < 97) = false by simp; omega]
          simp only
          by_cases h2 : b.toNat > 122
          · rw [show decide ((b.toNat : Int) > 122) = true by simp; omega]
            simp [isLow, h1, h2]
          · rw [show decide ((b.toNat : Int) > 122) = false by simp; omega, wrap_succ (by omega)]
            simp [isLow, h1, h2])
      (fun _ _ _ _ _ _ _ _ => trivial) () (s.size + 1) trivial (by omega)
  refine (qb_run hloop).trans ?_
  rw [lfold_all]
  unfold domOk
  cases s.data.toList.all isLow with
  | false => rfl
  | true =>
    show (br (decide ((s.size : Int) ≥ 1)) (some (V.bool (decide ((s.size : Int) ≤ 10)), [], [])) (some (V.bool false, [], [])) : Option (V × List Vm.Obj × List Vm.Obj)) = _
    by_cases h1 : 1 ≤ s.size
    · rw [show decide ((s.size : Int) ≥ 1) = true by simp; omega]
      by_cases h2 : s.size ≤ 10
      · simp [br, h1, h2]; omega
      · simp [br, h1, h2]; omega
    · rw [show decide ((s.size : Int) ≥ 1) = false by simp; omega]
      simp [br, h1]

theorem spec_LetterOk_rn (l : Letter) (hs : l.domain.size ≤ 9223372036854775807) : RN 14 [.ag (Letter.cells l)] [] = some (.bool (letterOk l), [], []) := by
  refine rn_of_resid (n := 0) ?_
  rw [spec_LetterOk_res, pres_f (spec_l6Domain_rn _ hs)]
  simp only [qb, unC, fBool, br_if]
  unfold letterOk isAtom isTime
  repeat' split
  all_goals simp_all
  all_goals omega

theorem impl_LetterOk_rn (l : Letter) (hs : l.domain.size ≤ 9223372036854775807) : RN 15 [.ag (Letter.cells l)] [] = some (.bool (letterOk l), [], []) := by
  refine rn_of_resid (n := 0) ?_
  rw [impl_LetterOk_res, pres_f (impl_domainOk_rn _ hs)]
  simp only [qb, unC, fBool, br_if]
  unfold letterOk isAtom isTime
  repeat' split
  all_goals simp_all
  all_goals omega

theorem spec_NoteOk_rn (l : Note) (hs : l.domain.size ≤ 9223372036854775807) : RN 20 [.ag (Note.cells l)] [] = some (.bool (noteOk l), [], []) := by
  refine rn_of_resid (n := 0) ?_
  rw [spec_NoteOk_res, pres_f (spec_l6Domain_rn _ hs)]
  simp only [qb, unC, fBool, br_if, beq_bytes]
  unfold noteOk isAtom isTime
  generalize domOk l.domain = dm
  generalize he : decide (l.domain = ⟨#[]⟩) = em
  by_cases h1 : l.kind = 1
  · by_cases h2 : l.time = 0 <;> by_cases hw : 0 ≤ l.who <;> by_cases hw2 : l.who ≤ 29 <;> by_cases hb : 0 ≤ l.body <;> by_cases hb2 : l.body ≤ 1000000 <;> cases dm <;> simp [h1, h2, hw, hw2, hb, hb2] <;> (try omega)
  · by_cases h2 : l.kind = 2
    · by_cases ht : 0 ≤ l.time <;> by_cases ht2 : l.time ≤ 100000 <;> by_cases hw : 0 ≤ l.who <;> by_cases hw2 : l.who ≤ 29 <;> by_cases hb : l.body = 0 <;> cases em <;> simp [h1, h2, ht, ht2, hw, hw2, hb] <;> (try omega)
    · by_cases hk : l.kind = 3
      · by_cases hw : 0 ≤ l.who <;> by_cases hw2 : l.who ≤ 29 <;> by_cases hb : l.body = 0 <;> by_cases ht : l.time = 0 <;> cases em <;> simp [hk, hw, hw2, hb, ht]
      · by_cases hk2 : l.kind = 4
        · by_cases hw : 0 ≤ l.who <;> by_cases hw2 : l.who ≤ 29 <;> by_cases hb : l.body = 0 <;> by_cases ht : l.time = 0 <;> cases em <;> simp [hk2, hw, hw2, hb, ht]
        · by_cases h5 : 1 ≤ l.kind
          · rw [show decide (l.kind ≤ 4) = false by simp; omega]
            simp [h1, h2, hk, hk2, h5]
          · simp [h1, h2, hk, hk2, h5]

theorem impl_NoteOk_rn (l : Note) (hs : l.domain.size ≤ 9223372036854775807) : RN 22 [.ag (Note.cells l)] [] = some (.bool (noteOk l), [], []) := by
  refine rn_of_resid (n := 0) ?_
  rw [impl_NoteOk_res, pres_f (impl_domainOk_rn _ hs)]
  simp only [qb, unC, fBool, br_if, beq_ba, beq_int]
  unfold noteOk isAtom isTime
  generalize domOk l.domain = dm
  generalize he : decide (l.domain = ⟨#[]⟩) = em
  by_cases h1 : l.kind = 1
  · by_cases h2 : l.time = 0 <;> by_cases hw : 0 ≤ l.who <;> by_cases hw2 : l.who ≤ 29 <;> by_cases hb : 0 ≤ l.body <;> by_cases hb2 : l.body ≤ 1000000 <;> cases dm <;> simp [h1, h2, hw, hw2, hb, hb2] <;> (try omega)
  · by_cases h2 : l.kind = 2
    · by_cases ht : 0 ≤ l.time <;> by_cases ht2 : l.time ≤ 100000 <;> by_cases hw : 0 ≤ l.who <;> by_cases hw2 : l.who ≤ 29 <;> by_cases hb : l.body = 0 <;> cases em <;> simp [h1, h2, ht, ht2, hw, hw2, hb] <;> (try omega)
    · by_cases hk : l.kind = 3 <;> by_cases hk2 : l.kind = 4 <;> by_cases hw : 0 ≤ l.who <;> by_cases hw2 : l.who ≤ 29 <;> by_cases hb : l.body = 0 <;> cases em <;> simp [h1, h2, hk, hk2, hw, hw2, hb] <;> (try omega)

theorem eqLetter_rn (a b : Letter) : RN 18 [.ag (Letter.cells a), .ag (Letter.cells b)] [] = some (.bool (decide (a = b)), [], []) := by
  refine rn_of_resid (n := 0) ?_
  rw [laws_eqLetter_res]
  obtain ⟨d, o, s, t, n⟩ := a
  obtain ⟨d', o', s', t', n'⟩ := b
  simp only [br_if, beq_bytes]
  by_cases h1 : d = d' <;> by_cases h2 : o = o' <;> by_cases h3 : s = s' <;> by_cases h4 : t = t' <;> by_cases h5 : n = n' <;> simp [h1, h2, h3, h4, h5]

theorem spec_LetterTry_rn (l : Letter) (now : Int) (hs : l.domain.size ≤ 9223372036854775807) :
    RN 23 [.ag (Letter.cells l), .int now] [] = some (.tup [.ag (Letter.cells (letterTry l now).1), .bool (letterTry l now).2], [], []) := by
  refine rn_of_resid (n := 0) ?_
  have hk := pres_f (spec_LetterOk_rn l hs)
  simp only [Letter.cells, V.ag, List.map_cons, List.map_nil] at hk
  rw [spec_LetterTry_res, hk]
  simp only [qb, unC, fBool, br_if]
  unfold letterTry isTime
  cases hok : letterOk l with
  | false => simp [Letter.cells, V.ag]
  | true =>
    obtain ⟨_, _, _, _, t0, t4, n0, n1⟩ := letterOk_spec hok
    by_cases h1 : l.state = 1
    · by_cases h2 : l.next ≤ now
      · by_cases h3 : now ≤ 100000
        · by_cases h4 : l.tries = 4
          · simp [h1, h2, h3, h4, Letter.cells, V.ag]
          · obtain ⟨p1, p2, p3, p4, p5⟩ := try_pow t0 (by omega)
            rw [p1, p2, p3, wrap_id (by omega) (by omega)]
            have h5 : l.tries < 4 := by omega
            have h6 : 0 ≤ now := by omega
            by_cases h7 : 100000 < now + 10 * 2 ^ (l.tries + 1).toNat
            · have h8 : min 100000 (now + 10 * 2 ^ (l.tries + 1).toNat) = 100000 := by omega
              simp [h1, h2, h3, h4, h5, h6, h7, h8, Letter.cells, V.ag]
            · have h8 : min 100000 (now + 10 * 2 ^ (l.tries + 1).toNat) = now + 10 * 2 ^ (l.tries + 1).toNat := by omega
              simp [h1, h2, h3, h4, h5, h6, h7, h8, Letter.cells, V.ag]
        · simp [h1, h2, h3, Letter.cells, V.ag]
      · simp [h1, h2, Letter.cells, V.ag]
    · simp [h1, Letter.cells, V.ag]

theorem impl_LetterTry_rn (l : Letter) (now : Int) (hs : l.domain.size ≤ 9223372036854775807) :
    RN 24 [.ag (Letter.cells l), .int now] [] = some (.tup [.ag (Letter.cells (letterTry l now).1), .bool (letterTry l now).2], [], []) := by
  refine rn_of_resid (n := 0) ?_
  have hk := pres_f (impl_LetterOk_rn l hs)
  simp only [Letter.cells, V.ag, List.map_cons, List.map_nil] at hk
  rw [impl_LetterTry_res, hk]
  simp only [qb, unC, fBool, br_if, cond_false]
  unfold letterTry isTime
  cases hok : letterOk l with
  | false => simp [Letter.cells, V.ag]
  | true =>
    obtain ⟨_, _, _, _, t0, t4, n0, n1⟩ := letterOk_spec hok
    by_cases h1 : l.state = 1
    · by_cases h6 : 0 ≤ now
      · by_cases h3 : now ≤ 100000
        · by_cases h2 : l.next ≤ now
          · have h2' : ¬ now < l.next := by omega
            by_cases h4 : l.tries = 4
            · simp [h1, h2, h3, h4, h6, h2', Letter.cells, V.ag]
            · obtain ⟨p1, p2, p3, p4, p5⟩ := try_pow t0 (by omega)
              rw [p1, p2, p3, wrap_id (by omega) (by omega)]
              have h5 : l.tries < 4 := by omega
              by_cases h7 : now + 10 * 2 ^ (l.tries + 1).toNat < 100000
              · have h8 : min 100000 (now + 10 * 2 ^ (l.tries + 1).toNat) = now + 10 * 2 ^ (l.tries + 1).toNat := by omega
                simp [h1, h2, h2', h3, h4, h5, h6, h7, h8, Letter.cells, V.ag]
              · have h8 : min 100000 (now + 10 * 2 ^ (l.tries + 1).toNat) = 100000 := by omega
                simp [h1, h2, h2', h3, h4, h5, h6, h7, h8, Letter.cells, V.ag]
          · have h2' : now < l.next := by omega
            simp [h1, h2, h3, h6, h2', Letter.cells, V.ag]
        · simp [h1, h3, h6, Letter.cells, V.ag]
      · simp [h1, h6, Letter.cells, V.ag]
    · simp [h1, Letter.cells, V.ag]

end Go.Proofs.Ythhgnkogjccceaa
