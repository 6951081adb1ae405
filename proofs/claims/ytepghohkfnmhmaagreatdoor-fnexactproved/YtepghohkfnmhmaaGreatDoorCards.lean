/-
  DERIVED. GIVEN WITH THE SEED: THE CARDS: each row of YtepghohkfnmhmaaGreatDoorRows.lean that lists a variable, with what it lists TIED to the program's text (the seventh form; the later family's looks); each row that meets fmt, with fmt's text TOLD by the authors' own Lean function (tested against real Go, not proved from fmt's source: count such statements apart). THE CARD IS WHAT COUNTS. Prove the row's statement (the work); the ties are given (YtepghohkfnmhmaaGreatDoorTie.lean); close each card by the builder's one call (the guide's Derived/Test/ToyasCard.lean, 'card_holds'). Laid BY PROGRAM, IN A SANDBOX (cutbox-door.mjs). By AI agents, Wed Nov 11 2026. No macro, syntax, notation, axiom, sorry.
-/
import Derived.Test.YtepghohkfnmhmaaGreatDoorRows
import GoSem.ClaimSeven
namespace Go.Proofs.YtepghohkfnmhmaaGreatDoor
namespace Rows

/-- THE TIED CARD OF 'laws.FnExactProved'. -/
def fnExactProvedCard : Claim7 := { stood := { row := fnExactProvedRow, standIns := [], harness := (true, "b3d2651ef779a7630a0110972689bb771046dec30610633d40a5e104a1ed4311"), looks := true }, kinds := [], alts := [], laidByText := true, laidKinds := [.data, .data, .data, .data, .sentinel, .sentinel, .pinned], laidTests := true, laidLooks := .later }
def FnExactProvedCardSaid : Prop := Claim7.holds Tryz.pinned (.plain (OpenSpec.ofChange fnExactProvedSpec)) fnExactProvedCard

/-- THE SECOND FORM's CARD OF 'laws.FnExactProved'. -/
def fnExactProvedUptoCard : Claim7 := { stood := { row := fnExactProvedUptoRow, standIns := [], harness := (true, "b3d2651ef779a7630a0110972689bb771046dec30610633d40a5e104a1ed4311"), looks := true }, kinds := [], alts := [], laidByText := true, laidKinds := [.data, .data, .data, .data, .sentinel, .sentinel, .pinned], laidTests := true, laidLooks := .later }
def FnExactProvedUptoCardSaid : Prop := Claim7.holds Tryz.pinned (.plain (OpenSpec.upto fnExactProvedSpec)) fnExactProvedUptoCard
end Rows
end Go.Proofs.YtepghohkfnmhmaaGreatDoor
