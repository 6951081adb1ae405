/-
  Hosts that are right.
-/
import Derived.Test.YtoebfbhcbpiheaaDoorNsTm
import Derived.Test.YtoebfbhcbpiheaaDoorVm6
namespace Go.Proofs.YtoebfbhcbpiheaaDoor
open Go.Vm Go.Proofs
set_option linter.unusedVariables false
set_option linter.unusedSimpArgs false

theorem Split_t (s : ByteArray) (c : UInt8) (hs : s.size ≤ 900000000) : strings_Split_T s ⟨#[c]⟩ = some ((splitL c s.data.toList).map fun l => ⟨l.toArray⟩) := by
  have h : RN 61 [.str s, .str ⟨#[c]⟩] [] = some (.c (.f (.sl false .str (splitB s ⟨#[c]⟩))), [], []) := by
    refine rn_ext (g := extSplit) rfl ?_
    unfold extSplit
    simp only
    rw [if_pos ⟨by omega, Nat.le_refl 1⟩]
  have h2 : splitB s ⟨#[c]⟩ = (splitL c s.data.toList).map fun l => ⟨l.toArray⟩ := splitB_one c s
  rw [h2] at h
  unfold strings_Split_T presT
  rw [pres_f h]
  rfl
end Go.Proofs.YtoebfbhcbpiheaaDoor
