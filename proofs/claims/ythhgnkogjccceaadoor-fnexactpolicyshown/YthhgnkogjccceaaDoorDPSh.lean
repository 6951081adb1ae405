/-
  What is shown of policies.
-/
import Derived.Test.YthhgnkogjccceaaDoorDDig
import Derived.Test.YthhgnkogjccceaaDoorVmText
namespace Go.Proofs.YthhgnkogjccceaaDoor
open Go.Vm
set_option linter.unusedVariables false
set_option linter.unusedSimpArgs false

theorem spec_PolicyShown_lp (n : Nat) (p : Policy) (acc : ByteArray) (ha : acc.size + sizes p.mx ≤ 4611686018427387904) (hl : p.mx.length ≤ 4611686018427387904) (q : Nat) (hq : p.mx.length < q) :
    lp Tryd.prog cfg RN n 5 12 6 0 q ⟨frOf [(1, .c (.bx (.own 1) 0)), (4, .str acc), (5, .int 0)], hpIds [(.own 1, .box ((Policy.cells p).map C.f))]⟩ =
      some (.ext 0, ⟨frOf [(1, .c (.bx (.own 1) 0)), (4, .str (spaced p.mx acc))], hpIds [(.own 1, .box ((Policy.cells p).map C.f))]⟩) := by
  have hloop := lp_list (P := Tryd.prog) (cfg := cfg) (T := RN) (n := n) (d := 5) (f := 12) (r := 6) (na := 0) p.mx
    (fun _ x (a : ByteArray) => (.inl (a ++ ⟨#[32]⟩ ++ x) : ByteArray ⊕ Unit))
    (fun i a => ⟨frOf [(1, .c (.bx (.own 1) 0)), (4, .str a), (5, .int i)], hpIds [(.own 1, .box ((Policy.cells p).map C.f))]⟩)
    (fun a => (.ext 0, ⟨frOf [(1, .c (.bx (.own 1) 0)), (4, .str a)], hpIds [(.own 1, .box ((Policy.cells p).map C.f))]⟩)) (fun _ => (.ret, ⟨frOf [], hpIds []⟩))
    (fun i a => a.size + sizes (p.mx.drop i) ≤ 4611686018427387904)
    (fun _ _ => by rw [spec_PolicyShown_round6, lt_self]; rfl) (fun _ => rfl) (fun _ => rfl)
    (fun i x a hx hi hinv => by
      have hd := sizes_drop hx
      have hinv : a.size + sizes (p.mx.drop i) ≤ 4611686018427387904 := hinv
      rw [spec_PolicyShown_round6, lt_t hi, idx_nat hx]
      simp only [br, qb]
      simp (disch := (simp only [ByteArray.size_append, ba_size, List.size_toArray, List.length_cons, List.length_nil]; omega)) only [catOk_ok]
      rw [wrap_succ (by omega)]
      rfl)
    (fun i x a a' hx hi hinv hst => by
      cases hst
      have hd := sizes_drop hx
      have hinv : a.size + sizes (p.mx.drop i) ≤ 4611686018427387904 := hinv
      show (a ++ ⟨#[32]⟩ ++ x).size + sizes (p.mx.drop (i + 1)) ≤ 4611686018427387904
      simp only [ByteArray.size_append, ba_size, List.size_toArray, List.length_cons, List.length_nil]
      omega)
    acc q (by simpa using ha) hq
  rw [lfold_spaced] at hloop
  exact hloop

theorem impl_PolicyShown_lp (n : Nat) (p : Policy) (t : Bool) (acc : ByteArray) (ha : acc.size + sizes p.mx ≤ 4611686018427387904) (hl : p.mx.length ≤ 4611686018427387904) (q : Nat) (hq : p.mx.length < q) :
    lp Tryd.prog cfg RN n 5 14 6 0 q ⟨frOf [(1, .c (.bx (.own 1) 0)), (4, .str acc), (21, .sl t .str p.mx), (22, .int p.mx.length), (23, .int 0)], hpIds [(.own 1, .box ((Policy.cells p).map C.f))]⟩ =
      some (.ext 0, ⟨frOf [(1, .c (.bx (.own 1) 0)), (4, .str (spaced p.mx acc))], hpIds [(.own 1, .box ((Policy.cells p).map C.f))]⟩) := by
  have hloop := lp_list (P := Tryd.prog) (cfg := cfg) (T := RN) (n := n) (d := 5) (f := 14) (r := 6) (na := 0) p.mx
    (fun _ x (a : ByteArray) => (.inl (a ++ ⟨#[32]⟩ ++ x) : ByteArray ⊕ Unit))
    (fun i a => ⟨frOf [(1, .c (.bx (.own 1) 0)), (4, .str a), (21, .sl t .str p.mx), (22, .int p.mx.length), (23, .int i)], hpIds [(.own 1, .box ((Policy.cells p).map C.f))]⟩)
    (fun a => (.ext 0, ⟨frOf [(1, .c (.bx (.own 1) 0)), (4, .str a)], hpIds [(.own 1, .box ((Policy.cells p).map C.f))]⟩)) (fun _ => (.ret, ⟨frOf [], hpIds []⟩))
    (fun i a => a.size + sizes (p.mx.drop i) ≤ 4611686018427387904)
    (fun _ _ => by rw [impl_PolicyShown_round6, lt_self]; rfl) (fun _ => rfl) (fun _ => rfl)
    (fun i x a hx hi hinv => by
      have hd := sizes_drop hx
      have hinv : a.size + sizes (p.mx.drop i) ≤ 4611686018427387904 := hinv
      rw [impl_PolicyShown_round6, lt_t hi, idx_nat hx]
      simp only [br, qb]
      simp (disch := (simp only [ByteArray.size_append, ba_size, List.size_toArray, List.length_cons, List.length_nil]; omega)) only [catOk_ok]
      rw [wrap_succ (by omega), ba_assoc]
      rfl)
    (fun i x a a' hx hi hinv hst => by
      cases hst
      have hd := sizes_drop hx
      have hinv : a.size + sizes (p.mx.drop i) ≤ 4611686018427387904 := hinv
      show (a ++ ⟨#[32]⟩ ++ x).size + sizes (p.mx.drop (i + 1)) ≤ 4611686018427387904
      simp only [ByteArray.size_append, ba_size, List.size_toArray, List.length_cons, List.length_nil]
      omega)
    acc q (by simpa using ha) hq
  rw [lfold_spaced] at hloop
  exact hloop

theorem impl_modes_rn : RN 33 [] [] = some (.sl true .str modeNames, [], []) := by
  refine rn_of_resid (n := 0) ?_
  rw [impl_modes_res]
  rfl

theorem qb_so {α β : Type} (a : α) (f : α → Option β) : qb (some a) f = f a := rfl

theorem mode_idx {m : Int} (h0 : 0 ≤ m) (h1 : m ≤ 2) : idx modeNames m = some (modeName m) := by
  have : m = 0 ∨ m = 1 ∨ m = 2 := by omega
  rcases this with rfl | rfl | rfl <;> rfl

theorem mode_no {m : Int} (h : ¬ (0 ≤ m ∧ m ≤ 2)) : modeName m = ⟨#[63]⟩ := by
  unfold modeName
  rw [if_neg h]

theorem spec_PolicyShown_rn (p : Policy) (h : p.cost ≤ 1000000000) (n0 : -9223372036854775808 ≤ p.til) (n1 : p.til ≤ 9223372036854775807) : RN 12 [.ag (Policy.cells p)] [] = some (.str (policyShown p), [], []) := by
  refine rn_of_resid (n := p.mx.length + 1) ?_
  have hc : p.cost = p.domain.size + (p.mx.length + sumC ByteArray.size p.mx) := rfl
  have hs := sizes_eq p.mx
  have hm := modeName_size p.mode
  have h2 := pres_f (spec_l1Digits_rn p.til n0 n1)
  have s2 := itoaB_size n0 n1
  have hsz := spaced_size p.mx (p.domain ++ ⟨#[32]⟩ ++ modeName p.mode)
  have hacc : (p.domain ++ ⟨#[32]⟩ ++ modeName p.mode).size = p.domain.size + 1 + (modeName p.mode).size := by
    simp only [ByteArray.size_append, ba_size, List.size_toArray, List.length_cons, List.length_nil]
  have hlp := spec_PolicyShown_lp (p.mx.length + 1) p (p.domain ++ ⟨#[32]⟩ ++ modeName p.mode) (by rw [hacc]; omega) (by omega) (p.mx.length + 1) (by omega)
  have c1 : catOk p.domain ⟨#[32]⟩ = some () := catOk_ok (by simp only [ba_size, List.size_toArray, List.length_cons, List.length_nil]; omega)
  have c2 : catOk (p.domain ++ ⟨#[32]⟩) (modeName p.mode) = some () := catOk_ok (by simp only [ByteArray.size_append, ba_size, List.size_toArray, List.length_cons, List.length_nil]; omega)
  have c3 : catOk (spaced p.mx (p.domain ++ ⟨#[32]⟩ ++ modeName p.mode)) ⟨#[32]⟩ = some () := catOk_ok (by rw [hsz, hacc]; simp only [ba_size, List.size_toArray, List.length_cons, List.length_nil]; omega)
  have c4 : catOk (spaced p.mx (p.domain ++ ⟨#[32]⟩ ++ modeName p.mode) ++ ⟨#[32]⟩) (itoaB p.til) = some () := catOk_ok (by rw [ByteArray.size_append, hsz, hacc]; simp only [ba_size, List.size_toArray, List.length_cons, List.length_nil]; omega)
  have fin : ∀ k : Option (V × List Vm.Obj × List Vm.Obj), (qb (catOk (spaced p.mx (p.domain ++ ⟨#[32]⟩ ++ modeName p.mode)) ⟨#[32]⟩) fun x => qb (pres RN 26 [V.c (C.f (F.sc (Value.int IntKind.i64 p.til)))]) fun v =>
      qb (qb (unC v) fun y => fStr y) fun s_2 => qb (catOk (spaced p.mx (p.domain ++ ⟨#[32]⟩ ++ modeName p.mode) ++ ⟨#[32]⟩) s_2) fun x => some (V.str (spaced p.mx (p.domain ++ ⟨#[32]⟩ ++ modeName p.mode) ++ ⟨#[32]⟩ ++ s_2), [], [])) = k → k = some (.str (policyShown p), [], []) := by
    intro k hk
    rw [← hk]
    simp only [c3, h2, c4, qb, unC, fStr]
    rfl
  rw [spec_PolicyShown_res]
  by_cases g : 0 ≤ p.mode ∧ p.mode ≤ 2
  · have hi := mode_idx g.1 g.2
    unfold modeNames at hi
    rw [show decide (p.mode ≥ 0) = true by simp [g.1], show decide (p.mode ≤ 2) = true by simp [g.2]]
    simp only [br, hi, c1, c2, qb_so]
    refine (qb_run hlp).trans ?_
    exact fin _ rfl
  · have hn := mode_no g
    rw [hn] at hlp c2 fin
    by_cases g1 : 0 ≤ p.mode
    · rw [show decide (p.mode ≥ 0) = true by simp [g1], show decide (p.mode ≤ 2) = false by simp; omega]
      simp only [br, c1, c2, qb_so]
      refine (qb_run hlp).trans ?_
      exact fin _ rfl
    · rw [show decide (p.mode ≥ 0) = false by simp; omega]
      simp only [br, c1, c2, qb_so]
      refine (qb_run hlp).trans ?_
      exact fin _ rfl

theorem impl_PolicyShown_rn (p : Policy) (h : p.cost ≤ 1000000000) (n0 : -9223372036854775808 ≤ p.til) (n1 : p.til ≤ 9223372036854775807) : RN 14 [.ag (Policy.cells p)] [] = some (.str (policyShown p), [], []) := by
  refine rn_of_resid (n := p.mx.length + 1) ?_
  have hc : p.cost = p.domain.size + (p.mx.length + sumC ByteArray.size p.mx) := rfl
  have hs := sizes_eq p.mx
  have hm := modeName_size p.mode
  have h2 := pres_f (Itoa_rn p.til n0 n1)
  have h5 := pres_f impl_modes_rn
  have s2 := itoaB_size n0 n1
  have hsz := spaced_size p.mx (p.domain ++ ⟨#[32]⟩ ++ modeName p.mode)
  have hacc : (p.domain ++ ⟨#[32]⟩ ++ modeName p.mode).size = p.domain.size + 1 + (modeName p.mode).size := by
    simp only [ByteArray.size_append, ba_size, List.size_toArray, List.length_cons, List.length_nil]
  have hlp := impl_PolicyShown_lp (p.mx.length + 1) p false (p.domain ++ ⟨#[32]⟩ ++ modeName p.mode) (by rw [hacc]; omega) (by omega) (p.mx.length + 1) (by omega)
  have c1 : catOk p.domain ⟨#[32]⟩ = some () := catOk_ok (by simp only [ba_size, List.size_toArray, List.length_cons, List.length_nil]; omega)
  have c2 : catOk (p.domain ++ ⟨#[32]⟩) (modeName p.mode) = some () := catOk_ok (by simp only [ByteArray.size_append, ba_size, List.size_toArray, List.length_cons, List.length_nil]; omega)
  have c3 : catOk (spaced p.mx (p.domain ++ ⟨#[32]⟩ ++ modeName p.mode)) ⟨#[32]⟩ = some () := catOk_ok (by rw [hsz, hacc]; simp only [ba_size, List.size_toArray, List.length_cons, List.length_nil]; omega)
  have c4 : catOk (spaced p.mx (p.domain ++ ⟨#[32]⟩ ++ modeName p.mode) ++ ⟨#[32]⟩) (itoaB p.til) = some () := catOk_ok (by rw [ByteArray.size_append, hsz, hacc]; simp only [ba_size, List.size_toArray, List.length_cons, List.length_nil]; omega)
  have fin : ∀ k : Option (V × List Vm.Obj × List Vm.Obj), (qb (catOk (spaced p.mx (p.domain ++ ⟨#[32]⟩ ++ modeName p.mode)) ⟨#[32]⟩) fun x => qb (pres RN 28 [V.c (C.f (F.sc (Value.int IntKind.i64 p.til)))]) fun v =>
      qb (qb (unC v) fun y => fStr y) fun s_2 => qb (catOk (spaced p.mx (p.domain ++ ⟨#[32]⟩ ++ modeName p.mode) ++ ⟨#[32]⟩) s_2) fun x => some (V.str (spaced p.mx (p.domain ++ ⟨#[32]⟩ ++ modeName p.mode) ++ ⟨#[32]⟩ ++ s_2), [], [])) = k → k = some (.str (policyShown p), [], []) := by
    intro k hk
    rw [← hk]
    simp only [c3, h2, c4, qb, unC, fStr]
    rfl
  rw [impl_PolicyShown_res]
  by_cases g : 0 ≤ p.mode ∧ p.mode ≤ 2
  · have hi := mode_idx g.1 g.2
    rw [show decide (p.mode ≥ 0) = true by simp [g.1], show decide (p.mode ≤ 2) = true by simp [g.2], h5]
    simp only [br, qb_so]
    refine (qb_run (x := qb (unC _) _) rfl).trans ?_
    simp only [hi, c1, c2, qb_so]
    refine (qb_run hlp).trans ?_
    exact fin _ rfl
  · have hn := mode_no g
    rw [hn] at hlp c2 fin
    by_cases g1 : 0 ≤ p.mode
    · rw [show decide (p.mode ≥ 0) = true by simp [g1], show decide (p.mode ≤ 2) = false by simp; omega]
      simp only [br, c1, c2, qb_so]
      refine (qb_run hlp).trans ?_
      exact fin _ rfl
    · rw [show decide (p.mode ≥ 0) = false by simp; omega]
      simp only [br, c1, c2, qb_so]
      refine (qb_run hlp).trans ?_
      exact fin _ rfl

end Go.Proofs.YthhgnkogjccceaaDoor
