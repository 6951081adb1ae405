/-
  What the laws' own helpers come to: structs and lists of them.
-/
import Derived.Test.YtoebfbhcbpiheaaDoorNsHelp
import Derived.Test.YtoebfbhcbpiheaaDoorVm6
namespace Go.Proofs.YtoebfbhcbpiheaaDoor
open Go.Vm
set_option linter.unusedVariables false
set_option linter.unusedSimpArgs false









theorem eqNote_t (a b : Note) (h : Note.cost a < 9223372036854775807) : laws_eqNote_T a b = some (decide (a = b)) := by
  have hcost : Note.cost a = a.domain.size := by unfold Note.cost; first | rfl | omega
  refine laws_eqNote_of 0 a b ?_
  unfold laws_eqNote_R
  simp only [br_if, not_beq_bytes, bne_int]
  clear hcost h
  obtain ⟨a0, a1, a2, a3, a4⟩ := a
  obtain ⟨b0, b1, b2, b3, b4⟩ := b
  simp only [Note.mk.injEq]
  by_cases c0 : a0 = b0
  case neg => simp [c0]
  by_cases c1 : a1 = b1
  case neg => simp [c0, c1]
  by_cases c2 : a2 = b2
  case neg => simp [c0, c1, c2]
  by_cases c3 : a3 = b3
  case neg => simp [c0, c1, c2, c3]
  by_cases c4 : a4 = b4
  case neg => simp [c0, c1, c2, c3, c4]
  simp [c0, c1, c2, c3, c4]















theorem eqNoteS_of (a b : List Note) (ha : a.length < 9223372036854775807) (ih : ∀ x ∈ a, ∀ y, laws_eqNote_T x y = some (decide (x = y))) : laws_eqNoteS_T a b = some (decide (a = b)) := by
  refine laws_eqNoteS_of (a.length + 1) a b ?_
  unfold laws_eqNoteS_R
  by_cases hl : a.length = b.length
  · rw [show ((a.length : Int) != (b.length : Int)) = false by simp [hl], br_f]
    refine (qb_run (laws_eqNoteS_L4_if (lp_eq' a b hl (fun i => laws_eqNoteS_S4 false a false b false i) (.ext 0, laws_eqNoteS_O4 false) (.ret, laws_eqNoteS_O4 false) (by rw [laws_eqNoteS_round4, lt_self]; rfl) rfl rfl
      (fun i x y hx hy hi => by
        rw [laws_eqNoteS_round4, lt_t hi, idx_nat hx, idx_nat hy]
        simp only [br_t, qb_s, ih x (List.mem_of_getElem? hx) y]
        rw [wrap_succ (by omega)]
        by_cases he : x = y <;> simp [he, br_t, br_f]) (a.length + 1) (by omega)))).trans ?_
    by_cases hab : a = b <;> simp [hab, isRetE_r, isRetE_e, isExt_e, br_t, br_f]
  · rw [show ((a.length : Int) != (b.length : Int)) = true by simp; omega, br_t]
    simp [len_ne hl]











end Go.Proofs.YtoebfbhcbpiheaaDoor
