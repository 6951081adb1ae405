/-
  Marks on notes.
-/
import Derived.Test.YtoebfbhcbpiheaaDoorNsPl
import Derived.Test.YtoebfbhcbpiheaaDoorNsRec
namespace Go.Proofs.YtoebfbhcbpiheaaDoor
open Go.Vm
set_option linter.unusedVariables false
set_option linter.unusedSimpArgs false

theorem mark_loop (N : Nat) : ∀ (m : Nat) (acc : ByteArray) (q : Nat), m ≤ 1000000000 → acc.size + m ≤ 2000000000 → m < q →
    ∃ r, lp Tryd.prog cfg RN N 5 39 4 0 q (laws_markText_S4 m acc) = some (.ext 0, laws_markText_O4 r) ∧ r.size ≤ acc.size + m := by
  intro m
  induction m using Nat.strongRecOn with
  | _ m ih =>
    intro acc q hm ha hq
    obtain ⟨q, rfl⟩ : ∃ q', q = q' + 1 := ⟨q - 1, by omega⟩
    by_cases h0 : m = 0
    · subst h0
      exact ⟨acc, lp_out (by rw [laws_markText_round4]; rfl) rfl, by omega⟩
    · have h1 : ((m : Int)).tmod 10 = ((m % 10 : Nat) : Int) := by rw [Int.tmod_eq_emod_of_nonneg (by omega)]; omega
      have h2 : ((m : Int)).tdiv 10 = ((m / 10 : Nat) : Int) := by rw [Int.tdiv_eq_ediv_of_nonneg (by omega)]; omega
      have hround := laws_markText_round4 N m acc
      rw [show decide ((m : Int) > 0) = true from decide_eq_true (by omega), br_t, ne10, qb_s, h1, u8_digit (by omega), qb_s, catOk_ok (by rw [ba_size]; simp; omega), qb_s, qb_s, h2, wrap_id (by omega) (by omega)] at hround
      obtain ⟨r, hr, hs⟩ := ih (m / 10) (by omega) (ByteArray.mk #[UInt8.ofNat (48 + m % 10)] ++ acc) q (by omega) (by
        simp only [ByteArray.size_append, ba_size, List.size_toArray, List.length_cons, List.length_nil]; omega) (by omega)
      refine ⟨r, lp_next hround hr, ?_⟩
      simp only [ByteArray.size_append, ba_size, List.size_toArray, List.length_cons, List.length_nil] at hs
      omega

noncomputable def markT (k : Int) : ByteArray := (laws_markText_T k).getD ⟨#[]⟩

theorem markText_t {k : Int} (h0 : 0 ≤ k) (h1 : k ≤ 1000000000) : laws_markText_T k = some (markT k) := by
  have : ∃ t, laws_markText_T k = some t := by
    by_cases hz : k ≤ 0
    · exact ⟨_, laws_markText_of 0 k (y := ⟨#[109, 48]⟩) (by unfold laws_markText_R; rw [decide_eq_true hz]; rfl)⟩
    · obtain ⟨m, rfl⟩ : ∃ m : Nat, k = m := ⟨k.toNat, by omega⟩
      obtain ⟨r, hr, hs⟩ := mark_loop (m + 1) m ⟨#[]⟩ (m + 1) (by omega) (by rw [ba_size]; simp; omega) (by omega)
      have hc : catOk (ByteArray.mk #[109]) r = some () := catOk_ok (by
        have h0' : (ByteArray.mk #[]).size = 0 := rfl
        have h1' : (ByteArray.mk #[109]).size = 1 := rfl
        omega)
      refine ⟨_, laws_markText_of (m + 1) m (y := ByteArray.mk #[109] ++ r) ?_⟩
      unfold laws_markText_R
      rw [decide_eq_false hz, br_f]
      refine (qb_run (laws_markText_L4_of hr)).trans ?_
      simp only [isRetE_e, isExt_e, br_t, br_f]
      rw [hc]
      rfl
  obtain ⟨t, ht⟩ := this
  unfold markT
  rw [ht]
  rfl

noncomputable def markN (j : Nat) : Note := ⟨(1 + 5 * j : Nat), (2 + 5 * j : Nat), markT (3 + 5 * j : Nat), (4 + 5 * j : Nat), (5 + 5 * j : Nat)⟩

noncomputable def marks (n : Nat) : List Note := (List.range n).map markN

theorem marks_len (n : Nat) : (marks n).length = n := by simp [marks]

theorem marks_get {n i : Nat} (h : i < n) : (marks n)[i]? = some (markN i) := by
  unfold marks
  rw [List.getElem?_map, List.getElem?_range h]
  rfl

theorem marks_set {l : List Note} {i : Nat} (h : i < l.length) : (marks i ++ l.drop i).set i (markN i) = marks (i + 1) ++ l.drop (i + 1) := by
  have hd : l.drop i = l[i] :: l.drop (i + 1) := List.drop_eq_getElem_cons h
  rw [hd, List.set_append_right _ _ (by rw [marks_len]; omega), marks_len, Nat.sub_self, List.set_cons_zero]
  unfold marks
  rw [List.range_succ, List.map_append]
  simp

theorem marks_at {l : List Note} {i : Nat} (h : i < l.length) : (marks i ++ l.drop i)[i]? = some l[i] := by
  rw [List.getElem?_append_right (by rw [marks_len]; omega), marks_len, Nat.sub_self, List.getElem?_drop, Nat.add_zero, List.getElem?_eq_getElem h]

theorem markNoteS_loop (l : List Note) (hl : l.length ≤ 100000000) (N q : Nat) (hq : l.length < q) :
    lp Tryd.prog cfg RN N 4 15 2 1 q (laws_markNoteS_S2 l 1 0) = some (.ext 0, laws_markNoteS_O2 ((1 + 5 * l.length : Nat) : Int) (marks l.length)) := by
  have hloop := lp_fold (P := Tryd.prog) (cfg := cfg) (T := RN) (n := N) (d := 4) (f := 15) (r := 2) (na := 1) l
    (fun (a : Nat) (_ : Note) => a + 1) (fun i a => laws_markNoteS_S2 (marks a ++ l.drop a) ((1 + 5 * a : Nat) : Int) i) (fun a => (.ext 0, laws_markNoteS_O2 ((1 + 5 * a : Nat) : Int) (marks a ++ l.drop a))) (fun i a => a = i)
    (fun a ha => by
      subst ha
      rw [laws_markNoteS_round2, show decide (((l.length : Nat) : Int) < ((marks l.length ++ l.drop l.length).length : Int)) = false from decide_eq_false (by simp [marks_len]), br_f]) (fun _ => rfl)
    (fun i x a hx hi ha => by
      subst ha
      refine ⟨?_, rfl⟩
      have hlen : (marks a ++ l.drop a).length = l.length := by rw [List.length_append, marks_len, List.length_drop]; omega
      have hy := marks_at hi
      have e0 := idx_nat hy
      have e1 : ∀ A : Note, ((marks a ++ l.drop a).set a A)[a]? = some A := fun A => List.getElem?_set_self (by rw [hlen]; exact hi)
      have e2 : ∀ A : Note, idx ((marks a ++ l.drop a).set a A) (a : Int) = some A := fun A => idx_nat (e1 A)
      rw [laws_markNoteS_round2, show decide (((a : Nat) : Int) < ((marks a ++ l.drop a).length : Int)) = true from decide_eq_true (by rw [hlen]; omega), br_t]
      have w1 : IntKind.i64.wrap (((1 + 5 * a : Nat) : Int) + 1) = ((2 + 5 * a : Nat) : Int) := by rw [wrap_id (by omega) (by omega)]; omega
      have w2 : IntKind.i64.wrap (((2 + 5 * a : Nat) : Int) + 1) = ((3 + 5 * a : Nat) : Int) := by rw [wrap_id (by omega) (by omega)]; omega
      have w3 : IntKind.i64.wrap (((3 + 5 * a : Nat) : Int) + 1) = ((4 + 5 * a : Nat) : Int) := by rw [wrap_id (by omega) (by omega)]; omega
      have w4 : IntKind.i64.wrap (((4 + 5 * a : Nat) : Int) + 1) = ((5 + 5 * a : Nat) : Int) := by rw [wrap_id (by omega) (by omega)]; omega
      have w5 : IntKind.i64.wrap (((5 + 5 * a : Nat) : Int) + 1) = ((1 + 5 * (a + 1) : Nat) : Int) := by rw [wrap_id (by omega) (by omega)]; omega
      have hm := markText_t (k := ((3 + 5 * a : Nat) : Int)) (by omega) (by omega)
      simp only [w1, w2, w3, w4, w5, e0, hy, qb_s, Int.toNat_natCast, List.set_set, e1, e2, hm]
      rw [wrap_succ (by omega)]
      have := marks_set hi
      unfold markN at this
      rw [this]) 0 q rfl hq
  have hfold : ∀ (l : List Note) (a : Nat), l.foldl (fun (a : Nat) (_ : Note) => a + 1) a = a + l.length := by
    intro l
    induction l with
    | nil => simp
    | cons x l ih => intro a; rw [List.foldl_cons, ih]; simp; omega
  rw [hfold, Nat.zero_add, List.drop_length, List.append_nil] at hloop
  simpa [marks] using hloop

theorem heldNoteS_t (n : Nat) (hn : n ≤ 100000000) : laws_heldNoteS_T (marks n) 1 = some ((1 + 5 * n : Nat) : Int) := by
  refine laws_heldNoteS_of (n + 1) (marks n) 1 ?_
  unfold laws_heldNoteS_R
  have hloop := lp_fold (P := Tryd.prog) (cfg := cfg) (T := RN) (n := n + 1) (d := 5) (f := 16) (r := 2) (na := 0) (marks n)
    (fun (a : Nat) (_ : Note) => a + 1) (fun i a => laws_heldNoteS_S2 false (marks n) ((1 + 5 * a : Nat) : Int) 0 i) (fun a => (.ext 0, laws_heldNoteS_O2 ((1 + 5 * a : Nat) : Int) 0)) (fun i a => a = i)
    (fun a ha => by subst ha; rw [laws_heldNoteS_round2, lt_self]; rfl) (fun _ => rfl)
    (fun i x a hx hi ha => by
      subst ha
      refine ⟨?_, rfl⟩
      have hi' : a < n := by rw [marks_len] at hi; exact hi
      rw [marks_get hi'] at hx
      cases hx
      rw [laws_heldNoteS_round2, lt_t hi, idx_nat (marks_get hi')]
      have w1 : IntKind.i64.wrap (((1 + 5 * a : Nat) : Int) + 1) = ((2 + 5 * a : Nat) : Int) := by rw [wrap_id (by omega) (by omega)]; omega
      have w2 : IntKind.i64.wrap (((2 + 5 * a : Nat) : Int) + 1) = ((3 + 5 * a : Nat) : Int) := by rw [wrap_id (by omega) (by omega)]; omega
      have w3 : IntKind.i64.wrap (((3 + 5 * a : Nat) : Int) + 1) = ((4 + 5 * a : Nat) : Int) := by rw [wrap_id (by omega) (by omega)]; omega
      have w4 : IntKind.i64.wrap (((4 + 5 * a : Nat) : Int) + 1) = ((5 + 5 * a : Nat) : Int) := by rw [wrap_id (by omega) (by omega)]; omega
      have w5 : IntKind.i64.wrap (((5 + 5 * a : Nat) : Int) + 1) = ((1 + 5 * (a + 1) : Nat) : Int) := by rw [wrap_id (by omega) (by omega)]; omega
      have hm := markText_t (k := ((3 + 5 * a : Nat) : Int)) (by omega) (by omega)
      have b1 : ∀ k : Int, (k != k) = false := fun k => by simp
      simp only [w1, w2, w3, w4, w5, br_t, qb_s, hm, markN, b1, br_f, beq_bytes, decide_true, Bool.not_true]
      rw [wrap_succ (by omega)]) 0 (n + 1) rfl (by rw [marks_len]; omega)
  have hfold : ∀ (l : List Note) (a : Nat), l.foldl (fun (a : Nat) (_ : Note) => a + 1) a = a + l.length := by
    intro l
    induction l with
    | nil => simp
    | cons x l ih => intro a; rw [List.foldl_cons, ih]; simp; omega
  rw [hfold, Nat.zero_add, marks_len] at hloop
  exact (qb_run (laws_heldNoteS_L2_of hloop)).trans rfl

end Go.Proofs.YtoebfbhcbpiheaaDoor
