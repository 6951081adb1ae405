/-
  What is drawn: a cursor over bytes; numbers below a bound; picks from lists.
-/
import Derived.Test.YtgegmojoakkohaaGreatDoorRpRes
import Derived.Test.YtgegmojoakkohaaGreatDoorVm6
namespace Go.Proofs.YtgegmojoakkohaaGreatDoor
open Go.Vm
set_option linter.unusedVariables false
set_option linter.unusedSimpArgs false

def CurOk (b : List UInt8) (i : Int) : Prop := 0 ≤ i ∧ i ≤ b.length ∧ b.length ≤ 1048576

theorem and255 (x : Int) : 0 ≤ (((BitVec.ofInt IntKind.i64.bits x &&& BitVec.ofInt IntKind.i64.bits 255).toNat : Nat) : Int) ∧ (((BitVec.ofInt IntKind.i64.bits x &&& BitVec.ofInt IntKind.i64.bits 255).toNat : Nat) : Int) ≤ 255 := by
  have h : (BitVec.ofInt IntKind.i64.bits x &&& BitVec.ofInt IntKind.i64.bits 255).toNat ≤ 255 := by
    rw [BitVec.toNat_and]
    exact Nat.le_trans Nat.and_le_right (by decide)
  omega

theorem ne0_pos {n : Int} (h : 0 < n) : ne0 n = some () := by
  unfold ne0
  rw [if_neg (by omega)]

theorem tmod_below {v n : Int} (h0 : 0 ≤ v) (hn : 0 < n) : 0 ≤ v.tmod n ∧ v.tmod n < n := by
  rw [Int.tmod_eq_emod_of_nonneg h0]
  exact ⟨Int.emod_nonneg _ (by omega), Int.emod_lt_of_pos _ hn⟩

theorem spec_l1Byte_t (b : List UInt8) (i h : Int) (hc : CurOk b i) : ∃ v i' h', spec_l1Byte_H b i h = some (v, (b, i', h', ()), ()) ∧ CurOk b i' ∧ 0 ≤ v ∧ v ≤ 255 := by
  obtain ⟨h0, h1, h2⟩ := hc
  obtain ⟨k, rfl⟩ : ∃ k : Nat, i = k := ⟨i.toNat, by omega⟩
  by_cases hk : k < b.length
  · obtain ⟨x, hx⟩ : ∃ x, b[k]? = some x := ⟨_, List.getElem?_eq_getElem hk⟩
    refine ⟨_, _, _, spec_l1Byte_of 0 b k h (by
      unfold spec_l1Byte_R
      rw [show ge0 33 = some () from rfl, qb_s, show ge0 45 = some () from rfl, qb_s, lt_t hk, br_t, idx_nat hx, qb_s]), ?_, ?_⟩
    · rw [wrap_succ (by omega)]
      exact ⟨by omega, by omega, h2⟩
    · obtain ⟨a0, a1⟩ := and255 (IntKind.i64.wrap (IntKind.i64.wrap (↑(BitVec.ofInt IntKind.i64.bits (IntKind.i64.wrap (↑(BitVec.ofInt IntKind.i64.bits ((IntKind.i64.wrap (IntKind.i64.wrap (h * 6364136223846793005) + 1442695040888963407)).fdiv (2 ^ min (Int.toNat 33) IntKind.i64.bits)) ^^^ BitVec.ofInt IntKind.i64.bits ((IntKind.i64.wrap (IntKind.i64.wrap (h * 6364136223846793005) + 1442695040888963407)).fdiv (2 ^ min (Int.toNat 45) IntKind.i64.bits))).toNat : Int)) &&& BitVec.ofInt IntKind.i64.bits 255).toNat : Int) + IntKind.i64.wrap (↑x.toNat : Int)))
      rw [wrap_id (by omega) (by omega)]
      exact ⟨a0, a1⟩
  · refine ⟨_, _, _, spec_l1Byte_of 0 b k h (by
      unfold spec_l1Byte_R
      rw [show ge0 33 = some () from rfl, qb_s, show ge0 45 = some () from rfl, qb_s, show decide ((k : Int) < (b.length : Int)) = false by simp; omega, br_f]), ⟨h0, h1, h2⟩, ?_⟩
    obtain ⟨a0, a1⟩ := and255 (IntKind.i64.wrap (↑(BitVec.ofInt IntKind.i64.bits ((IntKind.i64.wrap (IntKind.i64.wrap (h * 6364136223846793005) + 1442695040888963407)).fdiv (2 ^ min (Int.toNat 33) IntKind.i64.bits)) ^^^ BitVec.ofInt IntKind.i64.bits ((IntKind.i64.wrap (IntKind.i64.wrap (h * 6364136223846793005) + 1442695040888963407)).fdiv (2 ^ min (Int.toNat 45) IntKind.i64.bits))).toNat : Int))
    rw [wrap_id (by omega) (by omega)]
    exact ⟨a0, a1⟩

theorem spec_l1Below_t (b : List UInt8) (i h : Int) (hc : CurOk b i) (n : Int) : ∃ v i' h', spec_l1Below_H n b i h = some (v, (b, i', h', ()), ()) ∧ CurOk b i' ∧ 0 ≤ v ∧ (0 < n → v < n) := by
  by_cases h0 : n ≤ 0
  · exact ⟨0, i, h, spec_l1Below_of 0 n b i h (by unfold spec_l1Below_R; rw [decide_eq_true h0, br_t]), hc, by omega, fun h => by omega⟩
  obtain ⟨v, i1, h1, e1, c1, v0, v1⟩ := spec_l1Byte_t b i h hc
  by_cases hs : n ≤ 256
  · obtain ⟨t0, t1⟩ := tmod_below v0 (show 0 < n by omega)
    exact ⟨v.tmod n, i1, h1, spec_l1Below_of 0 n b i h (by unfold spec_l1Below_R; rw [decide_eq_false h0, br_f, decide_eq_true hs, br_t, e1, qb_s, ne0_pos (by omega), qb_s]), c1, t0, fun _ => t1⟩
  · obtain ⟨w, i2, h2, e2, c2, w0, w1⟩ := spec_l1Byte_t b i1 h1 c1
    obtain ⟨x, i3, h3, e3, c3, x0, x1⟩ := spec_l1Byte_t b i2 h2 c2
    obtain ⟨y, i4, h4, e4, c4, y0, y1⟩ := spec_l1Byte_t b i3 h3 c3
    have hsum : IntKind.i64.wrap (IntKind.i64.wrap (IntKind.i64.wrap (IntKind.i64.wrap (v * 16777216) + IntKind.i64.wrap (w * 65536)) + IntKind.i64.wrap (x * 256)) + y) = v * 16777216 + w * 65536 + x * 256 + y := by
      rw [wrap_id (i := v * 16777216) (by omega) (by omega), wrap_id (i := w * 65536) (by omega) (by omega), wrap_id (i := x * 256) (by omega) (by omega), wrap_id (i := v * 16777216 + w * 65536) (by omega) (by omega), wrap_id (i := v * 16777216 + w * 65536 + x * 256) (by omega) (by omega), wrap_id (by omega) (by omega)]
    obtain ⟨t0, t1⟩ := tmod_below (show 0 ≤ v * 16777216 + w * 65536 + x * 256 + y by omega) (show 0 < n by omega)
    refine ⟨(v * 16777216 + w * 65536 + x * 256 + y).tmod n, i4, h4, spec_l1Below_of 0 n b i h ?_, c4, t0, fun _ => t1⟩
    unfold spec_l1Below_R
    rw [decide_eq_false h0, br_f, decide_eq_false hs, br_f, e1, qb_s]
    simp only [e2, e3, e4, qb_s, ne0_pos (show 0 < n by omega), hsum]

theorem spec_l1Once_t (b : List UInt8) (i h : Int) (hc : CurOk b i) (n : Int) : ∃ v i' h', spec_l1Once_H n b i h = some (v, (b, i', h', ()), ()) ∧ CurOk b i' := by
  obtain ⟨v, i1, h1, e1, c1, _, _⟩ := spec_l1Below_t b i h hc n
  exact ⟨v == 0, i1, h1, spec_l1Once_of 0 n b i h (by unfold spec_l1Once_R; rw [e1, qb_s]), c1⟩

theorem spec_l1Pick_t (b : List UInt8) (i h : Int) (hc : CurOk b i) (t : Bool) (l : List ByteArray) (hl : 0 < l.length) : ∃ v i' h', spec_l1Pick_H t l b i h = some (v, (b, i', h', ()), ()) ∧ CurOk b i' ∧ v ∈ l := by
  obtain ⟨v, i1, h1, e1, c1, v0, v1⟩ := spec_l1Below_t b i h hc (l.length : Int)
  obtain ⟨k, rfl⟩ : ∃ k : Nat, v = k := ⟨v.toNat, by omega⟩
  have hk : k < l.length := by have := v1 (by omega); omega
  obtain ⟨x, hx⟩ : ∃ x, l[k]? = some x := ⟨_, List.getElem?_eq_getElem hk⟩
  exact ⟨x, i1, h1, spec_l1Pick_of 0 t l b i h (by unfold spec_l1Pick_R; rw [e1, qb_s, idx_nat hx, qb_s]), c1, List.mem_of_getElem? hx⟩
theorem spec_l1PickInt_t (b : List UInt8) (i h : Int) (hc : CurOk b i) (t : Bool) (l : List Int) (hl : 0 < l.length) : ∃ v i' h', spec_l1PickInt_H t l b i h = some (v, (b, i', h', ()), ()) ∧ CurOk b i' ∧ v ∈ l := by
  obtain ⟨v, i1, h1, e1, c1, v0, v1⟩ := spec_l1Below_t b i h hc (l.length : Int)
  obtain ⟨k, rfl⟩ : ∃ k : Nat, v = k := ⟨v.toNat, by omega⟩
  have hk : k < l.length := by have := v1 (by omega); omega
  obtain ⟨x, hx⟩ : ∃ x, l[k]? = some x := ⟨_, List.getElem?_eq_getElem hk⟩
  exact ⟨x, i1, h1, spec_l1PickInt_of 0 t l b i h (by unfold spec_l1PickInt_R; rw [e1, qb_s, idx_nat hx, qb_s]), c1, List.mem_of_getElem? hx⟩
/-- A new cursor. -/
theorem spec_l1New_t (b : List UInt8) (h0 : Int) (hb : b.length ≤ 1048576) : ∃ h, spec_l1New_L3 4010 4010 false b h0 0 = some (.ext 0, (b, h, ()), ()) := by
  have hlen : (b.take 4000).length = min 4000 b.length := List.length_take ..
  have hloop := lp_fold (P := Tryz.prog) (cfg := cfg) (T := RN) (n := 4010) (d := 4) (f := 65) (r := 3) (na := 0) (b.take 4000)
    (fun (a : Int) (x : UInt8) => IntKind.i64.wrap (((BitVec.ofInt IntKind.i64.bits (IntKind.i64.wrap (IntKind.i64.wrap (IntKind.i64.wrap (a * 131) + IntKind.i64.wrap (x.toNat : Int)) + 7)) &&& BitVec.ofInt IntKind.i64.bits 1073741823).toNat : Nat) : Int))
    (fun i a => spec_l1New_S3 false b a i) (fun a => (.ext 0, spec_l1New_O3 false b a)) (fun _ _ => True)
    (fun a _ => by
      rw [spec_l1New_round3, hlen]
      by_cases h : 4000 ≤ b.length
      · rw [show min 4000 b.length = 4000 by omega, show decide (((4000 : Nat) : Int) < 4000) = false by decide]
        cases decide (((4000 : Nat) : Int) < (b.length : Int)) <;> rfl
      · rw [show min 4000 b.length = b.length by omega, lt_self]; rfl) (fun _ => rfl)
    (fun i x a hx hi _ => by
      rw [hlen] at hi
      have hx2 : b[i]? = some x := by
        rw [List.getElem?_take] at hx
        rw [if_pos (by omega)] at hx
        exact hx
      refine ⟨?_, trivial⟩
      rw [spec_l1New_round3, lt_t (show i < b.length by omega), show decide ((i : Int) < 4000) = true by simp; omega, br_t, br_t, idx_nat hx2, qb_s, wrap_succ (by omega)])
    h0 4010 trivial (by rw [hlen]; omega)
  exact ⟨_, spec_l1New_L3_of hloop⟩

end Go.Proofs.YtgegmojoakkohaaGreatDoor
