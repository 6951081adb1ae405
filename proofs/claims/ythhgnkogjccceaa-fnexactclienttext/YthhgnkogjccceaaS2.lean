/-
  Words by number, clients shown, clients compared.
-/
import Derived.Test.YthhgnkogjccceaaHelp
namespace Go.Proofs.Ythhgnkogjccceaa
open Go.Vm
set_option linter.unusedVariables false
set_option linter.unusedSimpArgs false

theorem spec_l17Name_rn (n : Int) (t : Bool) (l : List ByteArray) (h : l.length ≤ 1000) : RN 48 [.int n, .sl t .str l] [] = some (.str (nameOf n l), [], []) := by
  refine rn_of_resid (n := 0) ?_
  rw [spec_l17Name_res]
  by_cases h1 : 1 ≤ n
  · by_cases h2 : n ≤ l.length
    · rw [idx_name h1 h2 h, show decide (n < 1) = false by simp; omega, show decide (n > (l.length : Int)) = false by simp; omega]
      rfl
    · rw [show decide (n < 1) = false by simp; omega, show decide (n > (l.length : Int)) = true by simp; omega]
      simp [br, nameOf, h2]
  · rw [show decide (n < 1) = true by simp; omega]
    simp [br, nameOf, h1]

theorem impl_named_rn (n : Int) (t : Bool) (l : List ByteArray) (h : l.length ≤ 1000) : RN 50 [.int n, .sl t .str l] [] = some (.str (nameOf n l), [], []) := by
  refine rn_of_resid (n := 0) ?_
  rw [impl_named_res]
  by_cases h1 : 1 ≤ n
  · by_cases h2 : n ≤ l.length
    · rw [idx_name h1 h2 h, show decide (n ≥ 1) = true by simp; omega, show decide (n ≤ (l.length : Int)) = true by simp; omega]
      rfl
    · rw [show decide (n ≥ 1) = true by simp; omega, show decide (n ≤ (l.length : Int)) = false by simp; omega]
      simp [br, nameOf, h2]
  · rw [show decide (n ≥ 1) = false by simp; omega]
    simp [br, nameOf, h1]

def stepNames : List ByteArray := [⟨#[103, 114, 101, 101, 116]⟩, ⟨#[101, 104, 108, 111]⟩, ⟨#[114, 101, 97, 100, 121]⟩, ⟨#[114, 101, 112, 108, 121]⟩, ⟨#[109, 97, 105, 108]⟩, ⟨#[114, 99, 112, 116]⟩, ⟨#[100, 97, 116, 97]⟩, ⟨#[98, 111, 100, 121]⟩, ⟨#[100, 111, 110, 101]⟩, ⟨#[102, 97, 105, 108]⟩]

def clientText (c : Client) : ByteArray :=
  let a := nameOf c.step stepNames ++ ⟨#[32]⟩ ++ c.host
  let b := bif c.must then a ++ ⟨#[32, 109, 117, 115, 116]⟩ else a
  let d := bif c.tls then b ++ ⟨#[32, 115, 101, 97, 108, 101, 100]⟩ else b
  bif c.proved then d ++ ⟨#[32, 112, 114, 111, 118, 101, 100]⟩ else d

theorem clientText_size (c : Client) : (clientText c).size ≤ c.host.size + 40 := by
  have hn : (nameOf c.step stepNames).size ≤ 5 := nameOf_size (by omega) (by decide)
  unfold clientText
  cases c.must <;> cases c.tls <;> cases c.proved <;> simp only [cond_true, cond_false, ByteArray.size_append, ba_size, List.size_toArray, List.length_cons, List.length_nil] <;> omega

theorem spec_ClientText_rn (c : Client) (h : c.host.size ≤ 4611686018427387904) : RN 31 [.ag (Client.cells c)] [] = some (.str (clientText c), [], []) := by
  refine rn_of_resid (n := 0) ?_
  have hn : (nameOf c.step stepNames).size ≤ 5 := nameOf_size (by omega) (by decide)
  have h1 := pres_f (spec_l17Name_rn c.step false stepNames (by decide))
  rw [spec_ClientText_res]
  have h2 := h1
  simp only [stepNames, List.map_cons, List.map_nil] at h2
  rw [h2]
  simp only [qb, unC, fStr]
  unfold clientText
  rw [show (nameOf c.step [⟨#[103, 114, 101, 101, 116]⟩, ⟨#[101, 104, 108, 111]⟩, ⟨#[114, 101, 97, 100, 121]⟩, ⟨#[114, 101, 112, 108, 121]⟩, ⟨#[109, 97, 105, 108]⟩, ⟨#[114, 99, 112, 116]⟩, ⟨#[100, 97, 116, 97]⟩, ⟨#[98, 111, 100, 121]⟩, ⟨#[100, 111, 110, 101]⟩, ⟨#[102, 97, 105, 108]⟩]) = nameOf c.step stepNames from rfl]
  cases c.must <;> cases c.tls <;> cases c.proved <;>
    simp (disch := (simp only [ByteArray.size_append, ba_size, List.size_toArray, List.length_cons, List.length_nil]; omega)) only [catOk_ok, br, cond_true, cond_false]

theorem impl_ClientText_rn (c : Client) (h : c.host.size ≤ 4611686018427387904) : RN 33 [.ag (Client.cells c)] [] = some (.str (clientText c), [], []) := by
  refine rn_of_resid (n := 0) ?_
  have hn : (nameOf c.step stepNames).size ≤ 5 := nameOf_size (by omega) (by decide)
  have h1 := pres_f (impl_named_rn c.step false stepNames (by decide))
  rw [impl_ClientText_res]
  have h2 := h1
  simp only [stepNames, List.map_cons, List.map_nil] at h2
  rw [h2]
  simp only [qb, unC, fStr]
  unfold clientText
  rw [show (nameOf c.step [⟨#[103, 114, 101, 101, 116]⟩, ⟨#[101, 104, 108, 111]⟩, ⟨#[114, 101, 97, 100, 121]⟩, ⟨#[114, 101, 112, 108, 121]⟩, ⟨#[109, 97, 105, 108]⟩, ⟨#[114, 99, 112, 116]⟩, ⟨#[100, 97, 116, 97]⟩, ⟨#[98, 111, 100, 121]⟩, ⟨#[100, 111, 110, 101]⟩, ⟨#[102, 97, 105, 108]⟩]) = nameOf c.step stepNames from rfl]
  cases c.must <;> cases c.tls <;> cases c.proved <;>
    simp (disch := (simp only [ByteArray.size_append, ba_size, List.size_toArray, List.length_cons, List.length_nil]; omega)) only [catOk_ok, br, cond_true, cond_false]

theorem toClient_rn (c : Client) (h : c.share.cost ≤ 1000000000) : RN 32 [.ag (Client.cells c)] [] = some (.ag (Client.cells c), [], []) := by
  refine rn_of_resid (n := 0) ?_
  have h1 := pres_ag (toTerm_rn c.share h)
  simp only [Term.cells, V.ag, List.map_cons, List.map_nil] at h1
  rw [laws_toClient_res, h1]
  rfl

theorem eqClient_rn (a b : Client) (h : a.share.cost < 9223372036854775807) : RN 34 [.ag (Client.cells a), .ag (Client.cells b)] [] = some (.bool (decide (a = b)), [], []) := by
  refine rn_of_resid (n := 0) ?_
  have h1 := pres_f (eqTerm_rn a.share h b.share)
  simp only [Term.cells, V.ag, List.map_cons, List.map_nil] at h1
  rw [laws_eqClient_res]
  simp only [h1, qb, unC, fBool, br_if, beq_bytes]
  obtain ⟨a1, a2, a3, a4, a5, a6, a7, a8, a9, a10⟩ := a
  obtain ⟨b1, b2, b3, b4, b5, b6, b7, b8, b9, b10⟩ := b
  simp only [Client.mk.injEq]
  by_cases c1 : a1 = b1
  · by_cases c2 : a2 = b2
    · by_cases c3 : a3 = b3
      · by_cases c4 : a4 = b4
        · by_cases c5 : a5 = b5
          · by_cases c6 : a6 = b6
            · by_cases c7 : a7 = b7
              · by_cases c8 : a8 = b8
                · by_cases c9 : a9 = b9
                  · by_cases c10 : a10 = b10
                    · simp [c1, c2, c3, c4, c5, c6, c7, c8, c9, c10]
                    · simp [c1, c2, c3, c4, c5, c6, c7, c8, c9, c10]
                  · simp [c1, c2, c3, c4, c5, c6, c7, c8, c9]
                · simp [c1, c2, c3, c4, c5, c6, c7, c8]
              · simp [c1, c2, c3, c4, c5, c6, c7]
            · simp [c1, c2, c3, c4, c5, c6]
          · simp [c1, c2, c3, c4, c5]
        · simp [c1, c2, c3, c4]
      · simp [c1, c2, c3]
    · simp [c1, c2]
  · simp [c1]

theorem szClient_rn (c : Client) (hb : c.share.Bd) (hh : c.host.size ≤ maxLen) : RN 30 [.ag (Client.cells c), .int 1048576] [] = some (.int (leftOf (c.host.size + c.share.cost) 1048576), [], []) := by
  have hmax : maxLen = 9223372036854775807 := rfl
  refine rn_of_resid (n := 0) ?_
  rw [laws_szClient_res, wrap_id (by omega) (by omega)]
  by_cases hl : (c.host.size : Int) ≤ 1048576
  · have h1 := pres_f (szTerm_rn c.share hb (1048576 - c.host.size) (by omega) (by omega))
    simp only [Term.cells, V.ag, List.map_cons, List.map_nil] at h1
    rw [show decide ((1048576 : Int) - c.host.size < 0) = false by simp; omega]
    simp only [br, h1, qb, unC, fInt]
    unfold leftOf
    by_cases h2 : (c.share.cost : Int) ≤ 1048576 - c.host.size
    · rw [if_pos h2, if_pos (by omega), show decide ((1048576 : Int) - c.host.size - c.share.cost < 0) = false by simp; omega]
      simp only [V.int, Option.some.injEq, Prod.mk.injEq, V.c.injEq, C.f.injEq, F.sc.injEq, Value.int.injEq, true_and, and_true]
      omega
    · rw [if_neg h2, if_neg (by omega)]
      rfl
  · rw [show decide ((1048576 : Int) - c.host.size < 0) = true by simp; omega]
    simp only [br, leftOf]
    rw [if_neg (by omega)]

end Go.Proofs.Ythhgnkogjccceaa
