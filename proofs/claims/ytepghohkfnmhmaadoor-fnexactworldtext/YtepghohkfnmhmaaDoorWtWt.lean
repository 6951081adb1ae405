/-
  Worlds shown.
-/
import Derived.Test.YtepghohkfnmhmaaDoorWtDg
import Derived.Test.YtepghohkfnmhmaaDoorVm6
namespace Go.Proofs.YtepghohkfnmhmaaDoor
open Go.Vm
set_option linter.unusedVariables false
set_option linter.unusedSimpArgs false

structure ShowB (w : WorldD) : Prop where
  time : -9223372036854775808 ≤ w.time ∧ w.time ≤ 9223372036854775807
  letters : ∀ l ∈ w.letters, (-9223372036854775808 ≤ l.tries ∧ l.tries ≤ 9223372036854775807) ∧ (-9223372036854775808 ≤ l.next ∧ l.next ≤ 9223372036854775807)

theorem ShowB.of {w : WorldD} (b : ∃ n, ∀ f ∈ WorldD.cells w, BdF n f) : ShowB w := by
  refine ⟨bd_int (bd_of b (f := .int w.time) (by simp [WorldD.cells])), ?_⟩
  obtain ⟨_, m, hm⟩ := bd_sl (bd_of b (f := .sl false .letter w.letters) (by simp [WorldD.cells]))
  intro l hl
  exact ⟨bd_int ⟨m, hm l hl (.int l.tries) (by simp [cellsOf, Letter.cells])⟩, bd_int ⟨m, hm l hl (.int l.next) (by simp [cellsOf, Letter.cells])⟩⟩

theorem lines_letters (w : WorldD) (hb : ShowB w) (hw : w.cost ≤ 1048576) (acc : ByteArray) : (w.letters.foldl (fun a l => a ++ letterText l ++ ⟨#[10]⟩) acc).size ≤ acc.size + w.letters.length * 2000000 := by
  refine lines_size letterText 1999999 w.letters acc fun l hl => ?_
  have h1 := letterText_size l (hb.letters l hl).1.1 (hb.letters l hl).1.2 (hb.letters l hl).2.1 (hb.letters l hl).2.2
  have h2 : l.domain.size ≤ sumC Letter.cost w.letters := sumC_mem Letter.cost hl
  unfold WorldD.cost lsum at hw
  omega

theorem spec_WorldText_t (w : WorldD) (hb : ShowB w) (hw : w.cost ≤ 1048576) : spec_WorldText_T w = some (worldText w) := by
  have hhead := worldHead_size w hb.time.1 hb.time.2 (by omega)
  have hlines := lines_letters w hb hw (worldHead w)
  have a0 := itoaB_size hb.time.1 hb.time.2
  have hw' := hw
  unfold WorldD.cost lsum at hw'
  have a1 := itoaB_size (n := w.letters.length) (by omega) (by omega)
  have a2 := itoaB_size (n := w.calls.length) (by omega) (by omega)
  have a3 := itoaB_size (n := w.talks.length) (by omega) (by omega)
  have a4 := itoaB_size (n := w.told.length) (by omega) (by omega)
  refine spec_WorldText_of (w.letters.length + w.calls.length + 1) w ?_
  generalize hN : w.letters.length + w.calls.length + 1 = N
  unfold spec_WorldText_R
  simp only [qb_s, spec_l1Digits_t w.time hb.time.1 hb.time.2, spec_l1Digits_t (w.letters.length : Int) (by omega) (by omega), spec_l1Digits_t (w.calls.length : Int) (by omega) (by omega), spec_l1Digits_t (w.talks.length : Int) (by omega) (by omega), spec_l1Digits_t (w.told.length : Int) (by omega) (by omega)]
  simp (disch := (first | omega | (simp only [ByteArray.size_append, ba_size, List.size_toArray, List.length_cons, List.length_nil]; omega))) only [catOk_ok, qb_s]
  have loop1 := lp_fold (P := Tryd.prog) (cfg := cfg) (T := RN) (n := N) (d := 5) (f := 26) (r := 3) (na := 0) w.letters (fun (a : ByteArray) l => a ++ letterText l ++ ⟨#[10]⟩) (fun i a => spec_WorldText_S3 a i w) (fun a => (.ext 0, spec_WorldText_O3 a w)) (fun i a => a.size ≤ 1000 + i * 2000000)
    (fun a _ => by rw [spec_WorldText_round3, lt_self]; rfl) (fun _ => rfl)
    (fun i l a hx hi hinv => by
      have hl := List.mem_of_getElem? hx
      have h1 := letterText_size l (hb.letters l hl).1.1 (hb.letters l hl).1.2 (hb.letters l hl).2.1 (hb.letters l hl).2.2
      have h2 : l.domain.size ≤ sumC Letter.cost w.letters := sumC_mem Letter.cost hl
      rw [spec_WorldText_round3, lt_t hi, idx_nat hx]
      simp only [br_t, qb_s, spec_LetterText_t l (by omega) (hb.letters l hl).1.1 (hb.letters l hl).1.2 (hb.letters l hl).2.1 (hb.letters l hl).2.2]
      simp (disch := (first | omega | (simp only [ByteArray.size_append, ba_size, List.size_toArray, List.length_cons, List.length_nil]; omega))) only [catOk_ok, qb_s]
      rw [wrap_succ (by omega)]
      refine ⟨rfl, ?_⟩
      simp only [ByteArray.size_append, ba_size, List.size_toArray, List.length_cons, List.length_nil]
      omega) (worldHead w) N (by simpa using hhead) (by omega)
  refine (qb_run (spec_WorldText_L3_of loop1)).trans ?_
  simp only [isRetE_e, isExt_e, br_t, br_f]
  generalize hA : w.letters.foldl (fun (a : ByteArray) l => a ++ letterText l ++ ⟨#[10]⟩) (worldHead w) = A at hlines
  have loop2 := lp_fold (P := Tryd.prog) (cfg := cfg) (T := RN) (n := N) (d := 5) (f := 26) (r := 7) (na := 0) w.calls (fun (a : ByteArray) (c : CallD) => a ++ clientText c.client ++ ⟨#[10]⟩) (fun i a => spec_WorldText_S7 a i w) (fun a => (.ext 2, spec_WorldText_O7 a)) (fun i a => a.size ≤ A.size + i * 2000000)
    (fun a _ => by rw [spec_WorldText_round7, lt_self]; rfl) (fun _ => rfl)
    (fun i c a hx hi hinv => by
      have hl := List.mem_of_getElem? hx
      have h1 := clientText_size c.client
      have h2 : CallD.cost c ≤ sumC CallD.cost w.calls := sumC_mem CallD.cost hl
      have h3 : c.client.host.size ≤ CallD.cost c := by unfold CallD.cost Client.cost; omega
      rw [spec_WorldText_round7, lt_t hi, idx_nat hx]
      simp only [br_t, qb_s, spec_ClientText_t c.client (by omega)]
      simp (disch := (first | omega | (simp only [ByteArray.size_append, ba_size, List.size_toArray, List.length_cons, List.length_nil]; omega))) only [catOk_ok, qb_s]
      rw [wrap_succ (by omega)]
      refine ⟨rfl, ?_⟩
      simp only [ByteArray.size_append, ba_size, List.size_toArray, List.length_cons, List.length_nil]
      omega) A N (by simp) (by omega)
  refine (qb_run (spec_WorldText_L7_of loop2)).trans ?_
  simp only [isRetE_e, isExt_e, br_t, br_f]
  unfold worldText
  rw [hA]

theorem impl_WorldText_t (w : WorldD) (hb : ShowB w) (hw : w.cost ≤ 1048576) : impl_WorldText_T w = some (worldText w) := by
  have hhead := worldHead_size w hb.time.1 hb.time.2 (by omega)
  have hlines := lines_letters w hb hw (worldHead w)
  have a0 := itoaB_size hb.time.1 hb.time.2
  have hw' := hw
  unfold WorldD.cost lsum at hw'
  have a1 := itoaB_size (n := w.letters.length) (by omega) (by omega)
  have a2 := itoaB_size (n := w.calls.length) (by omega) (by omega)
  have a3 := itoaB_size (n := w.talks.length) (by omega) (by omega)
  have a4 := itoaB_size (n := w.told.length) (by omega) (by omega)
  refine impl_WorldText_of (w.letters.length + w.calls.length + 1) w ?_
  generalize hN : w.letters.length + w.calls.length + 1 = N
  unfold impl_WorldText_R
  simp only [qb_s, Itoa_t w.time hb.time.1 hb.time.2, Itoa_t (w.letters.length : Int) (by omega) (by omega), Itoa_t (w.calls.length : Int) (by omega) (by omega), Itoa_t (w.talks.length : Int) (by omega) (by omega), Itoa_t (w.told.length : Int) (by omega) (by omega)]
  simp (disch := (first | omega | (simp only [ByteArray.size_append, ba_size, List.size_toArray, List.length_cons, List.length_nil]; omega))) only [catOk_ok, qb_s]
  have loop1 := lp_fold (P := Tryd.prog) (cfg := cfg) (T := RN) (n := N) (d := 5) (f := 28) (r := 3) (na := 0) w.letters (fun (a : ByteArray) l => a ++ letterText l ++ ⟨#[10]⟩) (fun i a => impl_WorldText_S3 a false w.letters w.letters.length i w) (fun a => (.ext 0, impl_WorldText_O3 a w)) (fun i a => a.size ≤ 1000 + i * 2000000)
    (fun a _ => by rw [impl_WorldText_round3, lt_self]; rfl) (fun _ => rfl)
    (fun i l a hx hi hinv => by
      have hl := List.mem_of_getElem? hx
      have h1 := letterText_size l (hb.letters l hl).1.1 (hb.letters l hl).1.2 (hb.letters l hl).2.1 (hb.letters l hl).2.2
      have h2 : l.domain.size ≤ sumC Letter.cost w.letters := sumC_mem Letter.cost hl
      rw [impl_WorldText_round3, lt_t hi, idx_nat hx]
      simp only [br_t, qb_s, impl_LetterText_t l (by omega) (hb.letters l hl).1.1 (hb.letters l hl).1.2 (hb.letters l hl).2.1 (hb.letters l hl).2.2]
      simp (disch := (first | omega | (simp only [ByteArray.size_append, ba_size, List.size_toArray, List.length_cons, List.length_nil]; omega))) only [catOk_ok, qb_s]
      rw [wrap_succ (by omega), ba_assoc]
      refine ⟨rfl, ?_⟩
      simp only [ByteArray.size_append, ba_size, List.size_toArray, List.length_cons, List.length_nil]
      omega) (worldHead w) N (by simpa using hhead) (by omega)
  refine (qb_run (impl_WorldText_L3_of loop1)).trans ?_
  simp only [isRetE_e, isExt_e, br_t, br_f]
  generalize hA : w.letters.foldl (fun (a : ByteArray) l => a ++ letterText l ++ ⟨#[10]⟩) (worldHead w) = A at hlines
  have loop2 := lp_fold (P := Tryd.prog) (cfg := cfg) (T := RN) (n := N) (d := 5) (f := 28) (r := 8) (na := 0) w.calls (fun (a : ByteArray) (c : CallD) => a ++ clientText c.client ++ ⟨#[10]⟩) (fun i a => impl_WorldText_S8 a false w.calls w.calls.length i) (fun a => (.ext 2, impl_WorldText_O8 a)) (fun i a => a.size ≤ A.size + i * 2000000)
    (fun a _ => by rw [impl_WorldText_round8, lt_self]; rfl) (fun _ => rfl)
    (fun i c a hx hi hinv => by
      have hl := List.mem_of_getElem? hx
      have h1 := clientText_size c.client
      have h2 : CallD.cost c ≤ sumC CallD.cost w.calls := sumC_mem CallD.cost hl
      have h3 : c.client.host.size ≤ CallD.cost c := by unfold CallD.cost Client.cost; omega
      rw [impl_WorldText_round8, lt_t hi, idx_nat hx]
      simp only [br_t, qb_s, impl_ClientText_t c.client (by omega)]
      simp (disch := (first | omega | (simp only [ByteArray.size_append, ba_size, List.size_toArray, List.length_cons, List.length_nil]; omega))) only [catOk_ok, qb_s]
      rw [wrap_succ (by omega), ba_assoc]
      refine ⟨rfl, ?_⟩
      simp only [ByteArray.size_append, ba_size, List.size_toArray, List.length_cons, List.length_nil]
      omega) A N (by simp) (by omega)
  refine (qb_run (impl_WorldText_L8_of loop2)).trans ?_
  simp only [isRetE_e, isExt_e, br_t, br_f]
  unfold worldText
  rw [hA]

end Go.Proofs.YtepghohkfnmhmaaDoor
