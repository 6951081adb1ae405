/-
  What is written of letters.
-/
import Derived.Test.YthhgnkogjccceaaDoorDNam
import Derived.Test.YthhgnkogjccceaaDoorDDig
import Derived.Test.YthhgnkogjccceaaDoorDJoin
import Derived.Test.YthhgnkogjccceaaDoorVmText
namespace Go.Proofs.YthhgnkogjccceaaDoor
open Go.Vm
set_option linter.unusedVariables false
set_option linter.unusedSimpArgs false

theorem spec_LetterText_rn (l : Letter) (hs : l.domain.size ≤ 4611686018427387904) (t0 : -9223372036854775808 ≤ l.tries) (t1 : l.tries ≤ 9223372036854775807) (n0 : -9223372036854775808 ≤ l.next) (n1 : l.next ≤ 9223372036854775807) :
    RN 17 [.ag (Letter.cells l)] [] = some (.str (letterText l), [], []) := by
  refine rn_of_resid (n := 0) ?_
  have hn : (nameOf l.state letterNames).size ≤ 5 := nameOf_size (by omega) (by decide)
  have h1 := pres_f (spec_l17Name_rn l.state false letterNames (by decide))
  have h2 := pres_f (spec_l1Digits_rn l.tries t0 t1)
  have h3 := pres_f (spec_l1Digits_rn l.next n0 n1)
  have s2 := itoaB_size t0 t1
  have s3 := itoaB_size n0 n1
  unfold letterNames at h1
  rw [spec_LetterText_res, h1]
  simp only [qb, unC, fStr, h2, h3]
  change (nameOf l.state [⟨#[119, 97, 105, 116, 115]⟩, ⟨#[103, 111, 110, 101]⟩, ⟨#[98, 97, 99, 107]⟩]).size ≤ 5 at hn
  simp (disch := (simp only [ByteArray.size_append, ba_size, List.size_toArray, List.length_cons, List.length_nil]; omega)) only [catOk_ok]
  rfl

theorem impl_LetterText_rn (l : Letter) (hs : l.domain.size ≤ 1000000000) (t0 : -9223372036854775808 ≤ l.tries) (t1 : l.tries ≤ 9223372036854775807) (n0 : -9223372036854775808 ≤ l.next) (n1 : l.next ≤ 9223372036854775807) :
    RN 19 [.ag (Letter.cells l)] [] = some (.str (letterText l), [], []) := by
  refine rn_of_resid (n := 0) ?_
  have hn : (nameOf l.state letterNames).size ≤ 5 := nameOf_size (by omega) (by decide)
  have h1 := pres_f (impl_named_rn l.state false letterNames (by decide))
  have h2 := pres_f (Itoa_rn l.tries t0 t1)
  have h3 := pres_f (Itoa_rn l.next n0 n1)
  have s2 := itoaB_size t0 t1
  have s3 := itoaB_size n0 n1
  have hj := join4 l.domain (nameOf l.state letterNames) (itoaB l.tries) (itoaB l.next)
  have hlen : (joinB [l.domain, nameOf l.state letterNames, itoaB l.tries, itoaB l.next] ⟨#[32]⟩).size ≤ 1000000100 := by
    rw [hj]
    simp only [ByteArray.size_append, ba_size, List.size_toArray, List.length_cons, List.length_nil]
    omega
  have h4 := pres_f (Join_rn false [l.domain, nameOf l.state letterNames, itoaB l.tries, itoaB l.next] ⟨#[32]⟩ (by simp) (by
    unfold joinB at hlen
    rw [ba_len] at hlen
    omega))
  rw [hj] at h4
  unfold letterNames at h1 h4
  rw [impl_LetterText_res, h1]
  simp only [qb, unC, fStr, h2, h3, h4]
  rfl

theorem toLetter_rn (l : Letter) : RN 18 [.ag (Letter.cells l)] [] = some (.ag (Letter.cells l), [], []) := by
  refine rn_of_resid (n := 0) ?_
  rw [laws_toLetter_res]
  rfl

theorem szLetter_rn (l : Letter) (hs : l.domain.size ≤ 9223372036854775807) (left : Int) (h0 : 0 ≤ left) (h1 : left ≤ 1048576) : RN 16 [.ag (Letter.cells l), .int left] [] = some (.int (vLeft l.domain.size left), [], []) := by
  refine rn_of_resid (n := 0) ?_
  rw [laws_szLetter_res, wrap_id (by omega) (by omega)]
  by_cases h : (l.domain.size : Int) ≤ left
  · rw [vLeft_yes h, show decide (left - (l.domain.size : Int) < 0) = false by simp; omega]
    rfl
  · rw [vLeft_not h, show decide (left - (l.domain.size : Int) < 0) = true by simp; omega]
    rfl

end Go.Proofs.YthhgnkogjccceaaDoor
