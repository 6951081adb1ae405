/-
  Letters that are drawn.
-/
import Derived.Test.YtepghohkfnmhmaaFlDr
import Derived.Test.YtepghohkfnmhmaaFlLe
namespace Go.Proofs.Ytepghohkfnmhmaa
open Go.Vm
set_option linter.unusedVariables false
set_option linter.unusedSimpArgs false

theorem spec_l6DrawDomain_t (b : List UInt8) (i h : Int) (hc : CurOk b i) : ∃ v i' h', spec_l6DrawDomain_H b i h = some (v, (b, i', h', ()), ()) ∧ CurOk b i' ∧ v.size = 1 := by
  obtain ⟨v, i1, h1, e1, c1, hv⟩ := spec_l1Pick_t b i h hc true [⟨#[97]⟩, ⟨#[98]⟩, ⟨#[101]⟩] (by decide)
  refine ⟨v, i1, h1, spec_l6DrawDomain_of 0 b i h (by unfold spec_l6DrawDomain_R; rw [e1, qb_s]), c1, ?_⟩
  simp only [List.mem_cons, List.not_mem_nil, or_false] at hv
  rcases hv with rfl | rfl | rfl <;> rfl
theorem l11_loop (b : List UInt8) (y2 : Letter) : ∀ (m x q : Nat), x + m = 6 → m < q → ∀ (i h : Int) (l : Letter), CurOk b i → l.domain.size = 1 →
    ∃ i' h' l', lp Try.prog cfg RN 10 5 57 3 1 q (spec_l11DrawRight_S3 (x : Int) b i h y2 l) = some (.ext 0, spec_l11DrawRight_O3 b i' h' y2 l') ∧ CurOk b i' ∧ l'.domain.size = 1
  | m, x, q, hx, hq, i, h, l, hc, hl => by
    obtain ⟨q, rfl⟩ : ∃ q', q = q' + 1 := ⟨q - 1, by omega⟩
    obtain ⟨v, i1, h1, e1, c1, v0, v1⟩ := spec_l1Below_t b i h hc 6
    have v2 := v1 (by omega)
    by_cases hv : (x : Int) < v
    · obtain ⟨w, i2, h2, e2, c2, _, _⟩ := spec_l1Below_t b i1 h1 c1 2
      have hr : roundK Try.prog cfg RN 10 5 57 3 1 (spec_l11DrawRight_S3 (x : Int) b i h y2 l) = some (.nrm, spec_l11DrawRight_S3 ((x + 1 : Nat) : Int) b i2 h2 y2 (letterTry l (IntKind.i64.wrap (l.next + w))).1) := by
        rw [spec_l11DrawRight_round3, e1, qb_s, decide_eq_true hv, br_t]
        simp only [e2, qb_s, spec_LetterTry_t l _ (show l.domain.size ≤ 900000000 by omega)]
        rw [wrap_succ (by omega)]
      match m, hx, hq with
      | 0, hx, hq => omega
      | m + 1, hx, hq =>
        obtain ⟨i3, h3, l3, e3, c3, d3⟩ := l11_loop b y2 m (x + 1) q (by omega) (by omega) i2 h2 (letterTry l (IntKind.i64.wrap (l.next + w))).1 c2 (by rw [letterTry_dom]; exact hl)
        exact ⟨i3, h3, l3, lp_next hr e3, c3, d3⟩
    · refine ⟨i1, h1, l, lp_out ?_ rfl, c1, hl⟩
      rw [spec_l11DrawRight_round3, e1, qb_s, decide_eq_false hv, br_f]

theorem spec_l11DrawRight_t (b : List UInt8) (i h : Int) (hc : CurOk b i) : ∃ v i' h', spec_l11DrawRight_H b i h = some (v, (b, i', h', ()), ()) ∧ CurOk b i' ∧ v.domain.size = 1 := by
  obtain ⟨d, i1, h1, e1, c1, hd⟩ := spec_l6DrawDomain_t b i h hc
  obtain ⟨v, i2, h2, e2, c2, _, _⟩ := spec_l1Below_t b i1 h1 c1 3
  obtain ⟨i3, h3, l, e3, c3, hl⟩ := l11_loop b (Letter.mk (ByteArray.mk #[]) 0 0 0 0) 6 0 10 rfl (by omega) i2 h2 (Letter.mk d (IntKind.i64.wrap (30 + v)) 1 0 0) c2 hd
  obtain ⟨o, i4, h4, e4, c4⟩ := spec_l1Once_t b i3 h3 c3 4
  have e3' := spec_l11DrawRight_L3_of e3
  have hR : spec_l11DrawRight_R 10 b i h = (br o (qb (spec_l1Once_H 2 b i4 h4) fun r => qb (spec_LetterEnd_T l r.fst) fun x => some (x, (r.snd.fst.fst, r.snd.fst.snd.fst, r.snd.fst.snd.snd.fst, PUnit.unit), PUnit.unit)) (some (l, (b, i4, h4, ()), ())) : Option ((Letter) × (List UInt8 × Int × Int × Unit) × Unit)) := by
    unfold spec_l11DrawRight_R
    rw [e1, qb_s]
    dsimp only
    rw [e2, qb_s]
    dsimp only
    refine (qb_run e3').trans ?_
    dsimp only
    rw [isRetE_e, br_f, isExt_e, br_t, e4, qb_s]
  cases o with
  | false => exact ⟨l, i4, h4, spec_l11DrawRight_of 10 b i h (hR.trans rfl), c4, hl⟩
  | true =>
    obtain ⟨g, i5, h5, e5, c5⟩ := spec_l1Once_t b i4 h4 c4 2
    refine ⟨letterEnd l g, i5, h5, spec_l11DrawRight_of 10 b i h (hR.trans ?_), c5, by rw [letterEnd_dom]; exact hl⟩
    rw [br_t, e5, qb_s, spec_LetterEnd_t, qb_s]
theorem spec_l11Draw_t (b : List UInt8) (i h : Int) (hc : CurOk b i) : ∃ v i' h', spec_l11Draw_H b i h = some (v, (b, i', h', ()), ()) ∧ CurOk b i' ∧ v.domain.size = 1 := by
  obtain ⟨l, i1, h1, e1, c1, hl⟩ := spec_l11DrawRight_t b i h hc
  obtain ⟨v, i2, h2, e2, c2, _, _⟩ := spec_l1Below_t b i1 h1 c1 12
  by_cases v0 : v = 0
  · obtain ⟨w, i3, h3, e3, c3, _, _⟩ := spec_l1Below_t b i2 h2 c2 5
    refine ⟨Letter.mk l.domain l.body w l.tries l.next, i3, h3, spec_l11Draw_of 0 b i h ?_, c3, hl⟩
    unfold spec_l11Draw_R
    rw [e1, qb_s]; dsimp only
    rw [e2, qb_s]; dsimp only
    rw [show (v == 0) = true by simp [v0], br_t, e3, qb_s]
  by_cases v1 : v = 1
  · obtain ⟨w, i3, h3, e3, c3, _⟩ := spec_l1PickInt_t b i2 h2 c2 true [-1, 4, 5] (by decide)
    refine ⟨Letter.mk l.domain l.body l.state w l.next, i3, h3, spec_l11Draw_of 0 b i h ?_, c3, hl⟩
    unfold spec_l11Draw_R
    rw [e1, qb_s]; dsimp only
    rw [e2, qb_s]; dsimp only
    rw [show (v == 0) = false by simp [v0], br_f, show (v == 1) = true by simp [v1], br_t, e3, qb_s]
  by_cases v2 : v = 2
  · obtain ⟨w, i3, h3, e3, c3, _⟩ := spec_l1PickInt_t b i2 h2 c2 true [-1, 100000, 100001] (by decide)
    refine ⟨Letter.mk l.domain l.body l.state l.tries w, i3, h3, spec_l11Draw_of 0 b i h ?_, c3, hl⟩
    unfold spec_l11Draw_R
    rw [e1, qb_s]; dsimp only
    rw [e2, qb_s]; dsimp only
    rw [show (v == 0) = false by simp [v0], br_f, show (v == 1) = false by simp [v1], br_f, show (v == 2) = true by simp [v2], br_t, e3, qb_s]
  · refine ⟨l, i2, h2, spec_l11Draw_of 0 b i h ?_, c2, hl⟩
    unfold spec_l11Draw_R
    rw [e1, qb_s]; dsimp only
    rw [e2, qb_s]; dsimp only
    rw [show (v == 0) = false by simp [v0], br_f, show (v == 1) = false by simp [v1], br_f, show (v == 2) = false by simp [v2], br_f]
theorem spec_DrawLetterTry_t (b : List UInt8) (hb : b.length ≤ 1048576) : ∃ l now, spec_DrawLetterTry_T b = some (l, now, ()) ∧ l.domain.size = 1 := by
  obtain ⟨h0, e0⟩ := spec_l1New_t b (IntKind.i64.wrap (22143 + (b.length : Int))) hb
  obtain ⟨l, i1, h1, e1, c1, hl⟩ := spec_l11Draw_t b 0 h0 ⟨by omega, by omega, hb⟩
  obtain ⟨w, i2, h2, e2, c2, _⟩ := spec_l1PickInt_t b i1 h1 c1 true [0, l.next, 500, 100000, 100001, -1] (by simp)
  refine ⟨l, w, spec_DrawLetterTry_of 4010 b ?_, hl⟩
  unfold spec_DrawLetterTry_R
  refine (qb_run e0).trans ?_
  dsimp only
  rw [isRetE_e, br_f, isExt_e, br_t, e1, qb_s]
  dsimp only
  rw [e2, qb_s]
theorem spec_DrawLetterEnd_t (b : List UInt8) (hb : b.length ≤ 1048576) : ∃ l g, spec_DrawLetterEnd_T b = some (l, g, ()) ∧ l.domain.size = 1 := by
  obtain ⟨h0, e0⟩ := spec_l1New_t b (IntKind.i64.wrap (22143 + (b.length : Int))) hb
  obtain ⟨l, i1, h1, e1, c1, hl⟩ := spec_l11Draw_t b 0 h0 ⟨by omega, by omega, hb⟩
  obtain ⟨w, i2, h2, e2, c2⟩ := spec_l1Once_t b i1 h1 c1 2
  refine ⟨l, w, spec_DrawLetterEnd_of 4010 b ?_, hl⟩
  unfold spec_DrawLetterEnd_R
  refine (qb_run e0).trans ?_
  dsimp only
  rw [isRetE_e, br_f, isExt_e, br_t, e1, qb_s]
  dsimp only
  rw [e2, qb_s]
theorem spec_DrawLetterOk_t (b : List UInt8) (hb : b.length ≤ 1048576) : ∃ l, spec_DrawLetterOk_T b = some l ∧ l.domain.size = 1 := by
  obtain ⟨h0, e0⟩ := spec_l1New_t b (IntKind.i64.wrap (22143 + (b.length : Int))) hb
  obtain ⟨l, i1, h1, e1, c1, hl⟩ := spec_l11Draw_t b 0 h0 ⟨by omega, by omega, hb⟩
  refine ⟨l, spec_DrawLetterOk_of 4010 b ?_, hl⟩
  unfold spec_DrawLetterOk_R
  refine (qb_run e0).trans ?_
  dsimp only
  rw [isRetE_e, br_f, isExt_e, br_t, e1, qb_s]
theorem spec_DrawSpent_t (b : List UInt8) (hb : b.length ≤ 1048576) : ∃ l now, spec_DrawSpent_T b = some (l, now, ()) ∧ l.domain.size = 1 := by
  obtain ⟨l, now, e, hl⟩ := spec_DrawLetterTry_t b hb
  exact ⟨l, now, spec_DrawSpent_of 0 b (by unfold spec_DrawSpent_R; rw [e, qb_s]), hl⟩
end Go.Proofs.Ytepghohkfnmhmaa
