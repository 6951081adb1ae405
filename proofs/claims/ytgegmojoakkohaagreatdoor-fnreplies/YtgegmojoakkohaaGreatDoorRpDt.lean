/-
  Terms, hosts that are drawn: some answer, of small cost.
-/
import Derived.Test.YtgegmojoakkohaaGreatDoorRpDr
import Derived.Test.YtgegmojoakkohaaGreatDoorRpMm
namespace Go.Proofs.YtgegmojoakkohaaGreatDoor
open Go.Vm
set_option linter.unusedVariables false
set_option linter.unusedSimpArgs false

theorem spec_l5DrawHost_t (b : List UInt8) (i h : Int) (hc : CurOk b i) : ∃ v i' h', spec_l5DrawHost_H b i h = some (v, (b, i', h', ()), ()) ∧ CurOk b i' ∧ v.size ≤ 6 := by
  obtain ⟨v, i1, h1, e1, c1, hv⟩ := spec_l1Pick_t b i h hc true [⟨#[109, 120, 46, 97]⟩, ⟨#[109, 50, 46, 97]⟩, ⟨#[109, 120, 46, 98]⟩, ⟨#[120, 46, 109, 120, 46, 97]⟩, ⟨#[101, 118, 105, 108, 46, 101]⟩, ⟨#[97, 46, 98]⟩] (by decide)
  refine ⟨v, i1, h1, spec_l5DrawHost_of 0 b i h (by unfold spec_l5DrawHost_R; rw [e1, qb_s]), c1, ?_⟩
  simp only [List.mem_cons, List.not_mem_nil, or_false] at hv
  rcases hv with rfl | rfl | rfl | rfl | rfl | rfl <;> decide
theorem l1Leaf_t (b : List UInt8) (i h : Int) (hc : CurOk b i) : ∃ v i' h', (qb (spec_l1Once_H 3 b i h) fun r => br r.fst (qb (spec_l1Pick_H true [ByteArray.mk #[], ByteArray.mk #[97], ByteArray.mk #[109, 120, 46, 97], ByteArray.mk #[50, 53, 48]] r.snd.fst.fst r.snd.fst.snd.fst r.snd.fst.snd.snd.fst) fun r => some (Term.mk 2 0 r.fst [], (r.snd.fst.fst, r.snd.fst.snd.fst, r.snd.fst.snd.snd.fst, PUnit.unit), PUnit.unit)) (qb (spec_l1Below_H 9 r.snd.fst.fst r.snd.fst.snd.fst r.snd.fst.snd.snd.fst) fun r => some (Term.mk 1 r.fst (ByteArray.mk #[]) [], (r.snd.fst.fst, r.snd.fst.snd.fst, r.snd.fst.snd.snd.fst, PUnit.unit), PUnit.unit)) : Option ((Term) × (List UInt8 × Int × Int × Unit) × Unit))
    = some (v, (b, i', h', ()), ()) ∧ CurOk b i' ∧ v.cost ≤ 70000 := by
  obtain ⟨o, i1, h1, e1, c1⟩ := spec_l1Once_t b i h hc 3
  rw [e1, qb_s]
  cases o with
  | true =>
    obtain ⟨s, i2, h2, e2, c2, hs⟩ := spec_l1Pick_t b i1 h1 c1 true [⟨#[]⟩, ⟨#[97]⟩, ⟨#[109, 120, 46, 97]⟩, ⟨#[50, 53, 48]⟩] (by decide)
    have hsz : s.size ≤ 4 := by
      simp only [List.mem_cons, List.not_mem_nil, or_false] at hs
      rcases hs with rfl | rfl | rfl | rfl <;> decide
    refine ⟨Term.mk 2 0 s [], i2, h2, by rw [br_t, e2, qb_s], c2, ?_⟩
    rw [Term.cost_eq]
    show s.size + 0 ≤ _
    omega
  | false =>
    obtain ⟨v, i2, h2, e2, c2, _, _⟩ := spec_l1Below_t b i1 h1 c1 9
    refine ⟨Term.mk 1 v ⟨#[]⟩ [], i2, h2, by rw [br_f, e2, qb_s], c2, ?_⟩
    rw [Term.cost_eq]
    show 0 + 0 ≤ _
    omega

theorem spec_l1DrawRight_t : ∀ (d : Nat), d ≤ 10 → ∀ (b : List UInt8) (i h : Int), CurOk b i → ∃ v i' h', spec_l1DrawRight_H (d : Int) b i h = some (v, (b, i', h', ()), ()) ∧ CurOk b i' ∧ v.cost ≤ 70000
  | 0, _, b, i, h, hc => by
    obtain ⟨v, i1, h1, e1, c1, hv⟩ := l1Leaf_t b i h hc
    exact ⟨v, i1, h1, spec_l1DrawRight_of 0 _ b i h (by unfold spec_l1DrawRight_R; exact e1), c1, hv⟩
  | d + 1, hd, b, i, h, hc => by
    obtain ⟨o, i1, h1, e1, c1⟩ := spec_l1Once_t b i h hc 4
    have hz : (((d + 1 : Nat) : Int) == 0) = false := by simp; omega
    have hw : IntKind.i64.wrap (((d + 1 : Nat) : Int) - 1) = (d : Int) := by rw [wrap_id (by omega) (by omega)]; omega
    cases o with
    | true =>
      obtain ⟨v, i2, h2, e2, c2, hv⟩ := l1Leaf_t b i1 h1 c1
      refine ⟨v, i2, h2, spec_l1DrawRight_of 0 _ b i h ?_, c2, hv⟩
      unfold spec_l1DrawRight_R
      rw [hz, br_f, e1, qb_s, br_t]
      exact e2
    | false =>
      obtain ⟨a, i2, h2, e2, c2, ha⟩ := spec_l1DrawRight_t d (by omega) b i1 h1 c1
      obtain ⟨k, i3, h3, e3, c3, _, _⟩ := spec_l1Below_t b i2 h2 c2 7
      have hR : ∀ y, spec_l1DrawRight_R 0 ((d + 1 : Nat) : Int) b i h = y ↔ spec_l1DrawRight_R 0 ((d + 1 : Nat) : Int) b i h = y := fun _ => Iff.rfl
      by_cases k0 : k = 0
      · have hm := mkT_cost 4 [a]
        refine ⟨mkT 4 [a], i3, h3, spec_l1DrawRight_of 0 _ b i h ?_, c3, by omega⟩
        unfold spec_l1DrawRight_R
        rw [hz, br_f, e1, qb_s, br_f, hw, e2, qb_s]; dsimp only
        rw [e3, qb_s, show (k == 0) = true by simp [k0], br_t, spec_Pub_t a (by omega), qb_s, Term.eta]
      by_cases k1 : k = 1
      · have hm := mkT_cost 6 [a]
        refine ⟨mkT 6 [a], i3, h3, spec_l1DrawRight_of 0 _ b i h ?_, c3, by omega⟩
        unfold spec_l1DrawRight_R
        rw [hz, br_f, e1, qb_s, br_f, hw, e2, qb_s]; dsimp only
        rw [e3, qb_s, show (k == 0) = false by simp [k0], br_f, show (k == 1) = true by simp [k1], br_t, spec_Hash_t a (by omega), qb_s, Term.eta]
      by_cases k2 : k = 2
      · obtain ⟨x, i4, h4, e4, c4, hx⟩ := spec_l1DrawRight_t d (by omega) b i3 h3 c3
        have hm := mkT_cost 4 [x]
        have hg := agree_cost a (mkT 4 [x])
        have hR2 : spec_l1DrawRight_R 0 ((d + 1 : Nat) : Int) b i h = (br (agree a (mkT 4 [x])).2 (some ((agree a (mkT 4 [x])).1, (b, i4, h4, ()), ())) (some (a, (b, i4, h4, ()), ())) : Option ((Term) × (List UInt8 × Int × Int × Unit) × Unit)) := by
          unfold spec_l1DrawRight_R
          rw [hz, br_f, e1, qb_s, br_f, hw, e2, qb_s]; dsimp only
          rw [e3, qb_s, show (k == 0) = false by simp [k0], br_f, show (k == 1) = false by simp [k1], br_f, show (k == 2) = true by simp [k2], br_t, e4, qb_s, spec_Pub_t x (by omega), qb_s, spec_Agree_t a _ (by omega) (by omega), qb_s]
          simp only [Term.eta]
        cases hb : (agree a (mkT 4 [x])).2 with
        | true => exact ⟨_, i4, h4, spec_l1DrawRight_of 0 _ b i h (by rw [hR2, hb, br_t]), c4, by omega⟩
        | false => exact ⟨a, i4, h4, spec_l1DrawRight_of 0 _ b i h (by rw [hR2, hb, br_f]), c4, ha⟩
      by_cases k3 : k = 3
      · obtain ⟨w, i4, h4, e4, c4, w0, w1⟩ := spec_l1Below_t b i3 h3 c3 3
        have w2 := w1 (by omega)
        obtain ⟨x, i5, h5, e5, c5, hx⟩ := spec_l1DrawRight_t d (by omega) b i4 h4 c4
        have hm : (sealT a w x).cost ≤ 60199 := mkT_cost _ _
        refine ⟨sealT a w x, i5, h5, spec_l1DrawRight_of 0 _ b i h ?_, c5, by omega⟩
        unfold spec_l1DrawRight_R
        rw [hz, br_f, e1, qb_s, br_f, hw, e2, qb_s]; dsimp only
        rw [e3, qb_s, show (k == 0) = false by simp [k0], br_f, show (k == 1) = false by simp [k1], br_f, show (k == 2) = false by simp [k2], br_f, show (k == 3) = true by simp [k3], br_t, e4, qb_s]; dsimp only
        rw [e5, qb_s, spec_Seal_t a w x (by omega) (by omega) (by omega) (by omega), qb_s, Term.eta]
      by_cases k4 : k = 4
      · obtain ⟨x, i4, h4, e4, c4, hx⟩ := spec_l1DrawRight_t d (by omega) b i3 h3 c3
        have hm := mkT_cost 8 [a, x]
        refine ⟨mkT 8 [a, x], i4, h4, spec_l1DrawRight_of 0 _ b i h ?_, c4, by omega⟩
        unfold spec_l1DrawRight_R
        rw [hz, br_f, e1, qb_s, br_f, hw, e2, qb_s]; dsimp only
        rw [e3, qb_s, show (k == 0) = false by simp [k0], br_f, show (k == 1) = false by simp [k1], br_f, show (k == 2) = false by simp [k2], br_f, show (k == 3) = false by simp [k3], br_f, show (k == 4) = true by simp [k4], br_t, e4, qb_s, spec_Sign_t a x (by omega) (by omega), qb_s, Term.eta]
      · obtain ⟨x, i4, h4, e4, c4, hx⟩ := spec_l1DrawRight_t d (by omega) b i3 h3 c3
        have hm := mkT_cost 3 [a, x]
        refine ⟨mkT 3 [a, x], i4, h4, spec_l1DrawRight_of 0 _ b i h ?_, c4, by omega⟩
        unfold spec_l1DrawRight_R
        rw [hz, br_f, e1, qb_s, br_f, hw, e2, qb_s]; dsimp only
        rw [e3, qb_s, show (k == 0) = false by simp [k0], br_f, show (k == 1) = false by simp [k1], br_f, show (k == 2) = false by simp [k2], br_f, show (k == 3) = false by simp [k3], br_f, show (k == 4) = false by simp [k4], br_f, e4, qb_s, spec_Pair_t a x (by omega) (by omega), qb_s, Term.eta]
theorem spec_l1Draw_t (b : List UInt8) (i h : Int) (hc : CurOk b i) : ∃ v i' h', spec_l1Draw_H b i h = some (v, (b, i', h', ()), ()) ∧ CurOk b i' ∧ v.cost ≤ 70010 := by
  obtain ⟨t, i1, h1, e1, c1, ht⟩ := spec_l1DrawRight_t 3 (by omega) b i h hc
  have e1' : spec_l1DrawRight_H 3 b i h = some (t, (b, i1, h1, ()), ()) := e1
  obtain ⟨k, i2, h2, e2, c2, _, _⟩ := spec_l1Below_t b i1 h1 c1 14
  have hte := Term.cost_eq t
  have hkl := Term.costs_len t.kids
  by_cases k0 : k = 0
  · obtain ⟨w, i3, h3, e3, c3, _, _⟩ := spec_l1Below_t b i2 h2 c2 11
    refine ⟨Term.mk (IntKind.i64.wrap (w - 1)) t.n t.s t.kids, i3, h3, spec_l1Draw_of 0 b i h ?_, c3, by rw [Term.cost_eq]; show t.s.size + Term.costs t.kids ≤ _; omega⟩
    unfold spec_l1Draw_R
    rw [e1', qb_s]; dsimp only
    rw [e2, qb_s]; dsimp only
    rw [show (k == 0) = true by simp [k0], br_t, e3, qb_s]
  by_cases k1 : k = 1
  · obtain ⟨w, i3, h3, e3, c3, _⟩ := spec_l1PickInt_t b i2 h2 c2 true [-1, 1, 1000000, 1000001, -9223372036854775808] (by decide)
    refine ⟨Term.mk t.op w t.s t.kids, i3, h3, spec_l1Draw_of 0 b i h ?_, c3, by rw [Term.cost_eq]; show t.s.size + Term.costs t.kids ≤ _; omega⟩
    unfold spec_l1Draw_R
    rw [e1', qb_s]; dsimp only
    rw [e2, qb_s]; dsimp only
    rw [show (k == 0) = false by simp [k0], br_f, show (k == 1) = true by simp [k1], br_t, e3, qb_s]
  by_cases k2 : k = 2
  · refine ⟨Term.mk t.op t.n ⟨#[120]⟩ t.kids, i2, h2, spec_l1Draw_of 0 b i h ?_, c2, by rw [Term.cost_eq]; show 1 + Term.costs t.kids ≤ _; omega⟩
    unfold spec_l1Draw_R
    rw [e1', qb_s]; dsimp only
    rw [e2, qb_s]; dsimp only
    rw [show (k == 0) = false by simp [k0], br_f, show (k == 1) = false by simp [k1], br_f, show (k == 2) = true by simp [k2], br_t]
  by_cases k3 : k = 3
  · have happ : Nat.ble (t.kids.length + [Term.mk 1 0 (ByteArray.mk #[]) []].length) appMax = true := by
      rw [Nat.ble_eq, appMax, List.length_singleton]; omega
    have hcs : ∀ (l : List Term), Term.costs (l ++ [Term.mk 1 0 (ByteArray.mk #[]) []]) = Term.costs l + 1 := by
      intro l
      induction l with
      | nil => rfl
      | cons x l ih => simp only [List.cons_append, Term.costs, ih]; omega
    refine ⟨Term.mk t.op t.n t.s (t.kids ++ [Term.mk 1 0 (ByteArray.mk #[]) []]), i2, h2, spec_l1Draw_of 0 b i h ?_, c2, by rw [Term.cost_eq]; show t.s.size + Term.costs (t.kids ++ [Term.mk 1 0 (ByteArray.mk #[]) []]) ≤ _; rw [hcs]; omega⟩
    unfold spec_l1Draw_R
    rw [e1', qb_s]; dsimp only
    rw [e2, qb_s]; dsimp only
    rw [show (k == 0) = false by simp [k0], br_f, show (k == 1) = false by simp [k1], br_f, show (k == 2) = false by simp [k2], br_f, show (k == 3) = true by simp [k3], br_t, happ, br_t]
  · refine ⟨t, i2, h2, spec_l1Draw_of 0 b i h ?_, c2, by omega⟩
    unfold spec_l1Draw_R
    rw [e1', qb_s]; dsimp only
    rw [e2, qb_s]; dsimp only
    rw [show (k == 0) = false by simp [k0], br_f, show (k == 1) = false by simp [k1], br_f, show (k == 2) = false by simp [k2], br_f, show (k == 3) = false by simp [k3], br_f, Term.eta]
end Go.Proofs.YtgegmojoakkohaaGreatDoor
