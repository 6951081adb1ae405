/-
  DERIVED. GIVEN WITH THE SEED: THE CARDS: each row of YtoebfbhcbpiheaaDoorRows.lean that lists a variable, with what it lists TIED to the program's text (the seventh form; the later family's looks); each row that meets fmt, with fmt's text TOLD by the authors' own Lean function (tested against real Go, not proved from fmt's source: count such statements apart). THE CARD IS WHAT COUNTS. Prove the row's statement (the work); the ties are given (YtoebfbhcbpiheaaDoorTie.lean); close each card by the builder's one call (the guide's Derived/Test/ToyasCard.lean, 'card_holds'). Laid BY PROGRAM, IN A SANDBOX (cutbox-door.mjs). By AI agents, Wed Nov 11 2026. No macro, syntax, notation, axiom, sorry.
-/
import Derived.Test.YtoebfbhcbpiheaaDoorRows
import GoSem.ClaimSeven
namespace Go.Proofs.YtoebfbhcbpiheaaDoor
namespace Rows

/-- THE TIED CARD OF 'laws.FnExactReplyOf'. -/
def fnExactReplyOfCard : Claim7 := { stood := { row := fnExactReplyOfRow, standIns := [], harness := (true, "37a732bfb65294e74169b3dec5188a4d315ebe54e683c4e167c6c207610578e6"), looks := true }, kinds := [], alts := [], laidByText := true, laidKinds := [.data, .data, .data], laidTests := true, laidLooks := .later }
def FnExactReplyOfCardSaid : Prop := Claim7.holds Tryd.pinned (.plain (OpenSpec.ofChange fnExactReplyOfSpec)) fnExactReplyOfCard

/-- THE TIED CARD OF 'laws.FnExactNotes'. -/
def fnExactNotesCard : Claim7 := { stood := { row := fnExactNotesRow, standIns := [], harness := (true, "37a732bfb65294e74169b3dec5188a4d315ebe54e683c4e167c6c207610578e6"), looks := true }, kinds := [], alts := [], laidByText := true, laidKinds := [.data, .data, .data, .data, .sentinel, .sentinel, .pinned], laidTests := true, laidLooks := .later }
def FnExactNotesCardSaid : Prop := Claim7.holds Tryd.pinned (.plain (OpenSpec.ofChange fnExactNotesSpec)) fnExactNotesCard

/-- THE SECOND FORM's CARD OF 'laws.FnExactReplyOf'. -/
def fnExactReplyOfUptoCard : Claim7 := { stood := { row := fnExactReplyOfUptoRow, standIns := [], harness := (true, "37a732bfb65294e74169b3dec5188a4d315ebe54e683c4e167c6c207610578e6"), looks := true }, kinds := [], alts := [], laidByText := true, laidKinds := [.data, .data, .data], laidTests := true, laidLooks := .later }
def FnExactReplyOfUptoCardSaid : Prop := Claim7.holds Tryd.pinned (.plain (OpenSpec.upto fnExactReplyOfSpec)) fnExactReplyOfUptoCard

/-- THE SECOND FORM's CARD OF 'laws.FnExactNotes'. -/
def fnExactNotesUptoCard : Claim7 := { stood := { row := fnExactNotesUptoRow, standIns := [], harness := (true, "37a732bfb65294e74169b3dec5188a4d315ebe54e683c4e167c6c207610578e6"), looks := true }, kinds := [], alts := [], laidByText := true, laidKinds := [.data, .data, .data, .data, .sentinel, .sentinel, .pinned], laidTests := true, laidLooks := .later }
def FnExactNotesUptoCardSaid : Prop := Claim7.holds Tryd.pinned (.plain (OpenSpec.upto fnExactNotesSpec)) fnExactNotesUptoCard
end Rows
end Go.Proofs.YtoebfbhcbpiheaaDoor
