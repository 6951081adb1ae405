/-
  DERIVED. GIVEN WITH THE SEED: THE CARDS: each row of YtgegmojoakkohaaGreatDoorRows.lean that lists a variable, with what it lists TIED to the program's text (the seventh form; the later family's looks); each row that meets fmt, with fmt's text TOLD by the authors' own Lean function (tested against real Go, not proved from fmt's source: count such statements apart). THE CARD IS WHAT COUNTS. Prove the row's statement (the work); the ties are given (YtgegmojoakkohaaGreatDoorTie.lean); close each card by the builder's one call (the guide's Derived/Test/ToyasCard.lean, 'card_holds'). Laid BY PROGRAM, IN A SANDBOX (cutbox-door.mjs). By AI agents, Wed Nov 11 2026. No macro, syntax, notation, axiom, sorry.
-/
import Derived.Test.YtgegmojoakkohaaGreatDoorRows
import GoSem.ClaimSeven
namespace Go.Proofs.YtgegmojoakkohaaGreatDoor
namespace Rows

/-- THE TIED CARD OF 'laws.FnMitm'. -/
def fnMitmCard : Claim7 := { stood := { row := fnMitmRow, standIns := [], harness := (true, "098d56886bef0d3f39e1f17405596c4bc75520f883eb5d9edff715e4cb46b689"), looks := true }, kinds := [], alts := [], laidByText := true, laidKinds := [.data, .data, .data, .data, .sentinel, .sentinel, .pinned], laidTests := true, laidLooks := .later }
def FnMitmCardSaid : Prop := Claim7.holds Tryz.pinned (.plain (OpenSpec.ofChange fnMitmSpec)) fnMitmCard

/-- THE TIED CARD OF 'laws.FnReplies'. -/
def fnRepliesCard : Claim7 := { stood := { row := fnRepliesRow, standIns := [], harness := (true, "098d56886bef0d3f39e1f17405596c4bc75520f883eb5d9edff715e4cb46b689"), looks := true }, kinds := [], alts := [], laidByText := true, laidKinds := [.data, .data, .data, .data, .sentinel, .sentinel, .pinned], laidTests := true, laidLooks := .later }
def FnRepliesCardSaid : Prop := Claim7.holds Tryz.pinned (.plain (OpenSpec.ofChange fnRepliesSpec)) fnRepliesCard

/-- THE TIED CARD OF 'laws.FnNoDowngrade'. -/
def fnNoDowngradeCard : Claim7 := { stood := { row := fnNoDowngradeRow, standIns := [], harness := (true, "098d56886bef0d3f39e1f17405596c4bc75520f883eb5d9edff715e4cb46b689"), looks := true }, kinds := [], alts := [], laidByText := true, laidKinds := [.data, .data, .data, .data, .sentinel, .sentinel, .pinned], laidTests := true, laidLooks := .later }
def FnNoDowngradeCardSaid : Prop := Claim7.holds Tryz.pinned (.plain (OpenSpec.ofChange fnNoDowngradeSpec)) fnNoDowngradeCard

/-- THE TIED CARD OF 'laws.FnMeets'. -/
def fnMeetsCard : Claim7 := { stood := { row := fnMeetsRow, standIns := [], harness := (true, "098d56886bef0d3f39e1f17405596c4bc75520f883eb5d9edff715e4cb46b689"), looks := true }, kinds := [], alts := [], laidByText := true, laidKinds := [.data, .data, .data, .data, .sentinel, .sentinel, .pinned], laidTests := true, laidLooks := .later }
def FnMeetsCardSaid : Prop := Claim7.holds Tryz.pinned (.plain (OpenSpec.ofChange fnMeetsSpec)) fnMeetsCard

/-- THE SECOND FORM's CARD OF 'laws.FnMitm'. -/
def fnMitmUptoCard : Claim7 := { stood := { row := fnMitmUptoRow, standIns := [], harness := (true, "098d56886bef0d3f39e1f17405596c4bc75520f883eb5d9edff715e4cb46b689"), looks := true }, kinds := [], alts := [], laidByText := true, laidKinds := [.data, .data, .data, .data, .sentinel, .sentinel, .pinned], laidTests := true, laidLooks := .later }
def FnMitmUptoCardSaid : Prop := Claim7.holds Tryz.pinned (.plain (OpenSpec.upto fnMitmSpec)) fnMitmUptoCard

/-- THE SECOND FORM's CARD OF 'laws.FnReplies'. -/
def fnRepliesUptoCard : Claim7 := { stood := { row := fnRepliesUptoRow, standIns := [], harness := (true, "098d56886bef0d3f39e1f17405596c4bc75520f883eb5d9edff715e4cb46b689"), looks := true }, kinds := [], alts := [], laidByText := true, laidKinds := [.data, .data, .data, .data, .sentinel, .sentinel, .pinned], laidTests := true, laidLooks := .later }
def FnRepliesUptoCardSaid : Prop := Claim7.holds Tryz.pinned (.plain (OpenSpec.upto fnRepliesSpec)) fnRepliesUptoCard

/-- THE SECOND FORM's CARD OF 'laws.FnNoDowngrade'. -/
def fnNoDowngradeUptoCard : Claim7 := { stood := { row := fnNoDowngradeUptoRow, standIns := [], harness := (true, "098d56886bef0d3f39e1f17405596c4bc75520f883eb5d9edff715e4cb46b689"), looks := true }, kinds := [], alts := [], laidByText := true, laidKinds := [.data, .data, .data, .data, .sentinel, .sentinel, .pinned], laidTests := true, laidLooks := .later }
def FnNoDowngradeUptoCardSaid : Prop := Claim7.holds Tryz.pinned (.plain (OpenSpec.upto fnNoDowngradeSpec)) fnNoDowngradeUptoCard

/-- THE SECOND FORM's CARD OF 'laws.FnMeets'. -/
def fnMeetsUptoCard : Claim7 := { stood := { row := fnMeetsUptoRow, standIns := [], harness := (true, "098d56886bef0d3f39e1f17405596c4bc75520f883eb5d9edff715e4cb46b689"), looks := true }, kinds := [], alts := [], laidByText := true, laidKinds := [.data, .data, .data, .data, .sentinel, .sentinel, .pinned], laidTests := true, laidLooks := .later }
def FnMeetsUptoCardSaid : Prop := Claim7.holds Tryz.pinned (.plain (OpenSpec.upto fnMeetsSpec)) fnMeetsUptoCard
end Rows
end Go.Proofs.YtgegmojoakkohaaGreatDoor
