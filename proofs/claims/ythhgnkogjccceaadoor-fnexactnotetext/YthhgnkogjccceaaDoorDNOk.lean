/-
  Notes that are right.
-/
import Derived.Test.YthhgnkogjccceaaDoorDDom
namespace Go.Proofs.YthhgnkogjccceaaDoor
open Go.Vm
set_option linter.unusedVariables false
set_option linter.unusedSimpArgs false

theorem spec_NoteOk_rn (l : Note) (hs : l.domain.size ≤ 9223372036854775807) : RN 25 [.ag (Note.cells l)] [] = some (.bool (noteOk l), [], []) := by
  refine rn_of_resid (n := 0) ?_
  rw [spec_NoteOk_res, pres_f (spec_l6Domain_rn _ hs)]
  simp only [qb, unC, fBool, br_if, beq_bytes]
  unfold noteOk isAtom isTime
  generalize domOk l.domain = dm
  generalize he : decide (l.domain = ⟨#[]⟩) = em
  by_cases h1 : l.kind = 1
  · by_cases h2 : l.time = 0 <;> by_cases hw : 0 ≤ l.who <;> by_cases hw2 : l.who ≤ 29 <;> by_cases hb : 0 ≤ l.body <;> by_cases hb2 : l.body ≤ 1000000 <;> cases dm <;> simp [h1, h2, hw, hw2, hb, hb2] <;> (try omega)
  · by_cases h2 : l.kind = 2
    · by_cases ht : 0 ≤ l.time <;> by_cases ht2 : l.time ≤ 100000 <;> by_cases hw : 0 ≤ l.who <;> by_cases hw2 : l.who ≤ 29 <;> by_cases hb : l.body = 0 <;> cases em <;> simp [h1, h2, ht, ht2, hw, hw2, hb] <;> (try omega)
    · by_cases hk : l.kind = 3
      · by_cases hw : 0 ≤ l.who <;> by_cases hw2 : l.who ≤ 29 <;> by_cases hb : l.body = 0 <;> by_cases ht : l.time = 0 <;> cases em <;> simp [hk, hw, hw2, hb, ht]
      · by_cases hk2 : l.kind = 4
        · by_cases hw : 0 ≤ l.who <;> by_cases hw2 : l.who ≤ 29 <;> by_cases hb : l.body = 0 <;> by_cases ht : l.time = 0 <;> cases em <;> simp [hk2, hw, hw2, hb, ht]
        · by_cases h5 : 1 ≤ l.kind
          · rw [show decide (l.kind ≤ 4) = false by simp; omega]
            simp [h1, h2, hk, hk2, h5]
          · simp [h1, h2, hk, hk2, h5]

theorem impl_NoteOk_rn (l : Note) (hs : l.domain.size ≤ 9223372036854775807) : RN 27 [.ag (Note.cells l)] [] = some (.bool (noteOk l), [], []) := by
  refine rn_of_resid (n := 0) ?_
  rw [impl_NoteOk_res, pres_f (impl_domainOk_rn _ hs)]
  simp only [qb, unC, fBool, br_if, beq_ba, beq_int]
  unfold noteOk isAtom isTime
  generalize domOk l.domain = dm
  generalize he : decide (l.domain = ⟨#[]⟩) = em
  by_cases h1 : l.kind = 1
  · by_cases h2 : l.time = 0 <;> by_cases hw : 0 ≤ l.who <;> by_cases hw2 : l.who ≤ 29 <;> by_cases hb : 0 ≤ l.body <;> by_cases hb2 : l.body ≤ 1000000 <;> cases dm <;> simp [h1, h2, hw, hw2, hb, hb2] <;> (try omega)
  · by_cases h2 : l.kind = 2
    · by_cases ht : 0 ≤ l.time <;> by_cases ht2 : l.time ≤ 100000 <;> by_cases hw : 0 ≤ l.who <;> by_cases hw2 : l.who ≤ 29 <;> by_cases hb : l.body = 0 <;> cases em <;> simp [h1, h2, ht, ht2, hw, hw2, hb] <;> (try omega)
    · by_cases hk : l.kind = 3 <;> by_cases hk2 : l.kind = 4 <;> by_cases hw : 0 ≤ l.who <;> by_cases hw2 : l.who ≤ 29 <;> by_cases hb : l.body = 0 <;> cases em <;> simp [h1, h2, hk, hk2, hw, hw2, hb] <;> (try omega)

end Go.Proofs.YthhgnkogjccceaaDoor
