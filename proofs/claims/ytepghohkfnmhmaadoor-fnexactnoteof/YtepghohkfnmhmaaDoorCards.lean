/-
  DERIVED. GIVEN WITH THE SEED: THE CARDS: each row of YtepghohkfnmhmaaDoorRows.lean that lists a variable, with what it lists TIED to the program's text (the seventh form; the later family's looks); each row that meets fmt, with fmt's text TOLD by the authors' own Lean function (tested against real Go, not proved from fmt's source: count such statements apart). THE CARD IS WHAT COUNTS. Prove the row's statement (the work); the ties are given (YtepghohkfnmhmaaDoorTie.lean); close each card by the builder's one call (the guide's Derived/Test/ToyasCard.lean, 'card_holds'). Laid BY PROGRAM, IN A SANDBOX (cutbox-door.mjs). By AI agents, Wed Nov 11 2026. No macro, syntax, notation, axiom, sorry.
-/
import Derived.Test.YtepghohkfnmhmaaDoorRows
import GoSem.ClaimSeven
namespace Go.Proofs.YtepghohkfnmhmaaDoor
namespace Rows

/-- THE TIED CARD OF 'laws.FnExactClientOk'. -/
def fnExactClientOkCard : Claim7 := { stood := { row := fnExactClientOkRow, standIns := [], harness := (true, "33b41fa3aeca2f9869f54beb82952e0ec71714b488127398d37e1d44eca2549d"), looks := true }, kinds := [], alts := [], laidByText := true, laidKinds := [.data, .pinned], laidTests := true, laidLooks := .later }
def FnExactClientOkCardSaid : Prop := Claim7.holds Tryd.pinned (.plain (OpenSpec.ofChange fnExactClientOkSpec)) fnExactClientOkCard

/-- THE TIED CARD OF 'laws.FnExactClientNew'. -/
def fnExactClientNewCard : Claim7 := { stood := { row := fnExactClientNewRow, standIns := [], harness := (true, "33b41fa3aeca2f9869f54beb82952e0ec71714b488127398d37e1d44eca2549d"), looks := true }, kinds := [], alts := [], laidByText := true, laidKinds := [.data, .pinned], laidTests := true, laidLooks := .later }
def FnExactClientNewCardSaid : Prop := Claim7.holds Tryd.pinned (.plain (OpenSpec.ofChange fnExactClientNewSpec)) fnExactClientNewCard

/-- THE TIED CARD OF 'laws.FnExactServerOk'. -/
def fnExactServerOkCard : Claim7 := { stood := { row := fnExactServerOkRow, standIns := [], harness := (true, "33b41fa3aeca2f9869f54beb82952e0ec71714b488127398d37e1d44eca2549d"), looks := true }, kinds := [], alts := [], laidByText := true, laidKinds := [.data, .pinned], laidTests := true, laidLooks := .later }
def FnExactServerOkCardSaid : Prop := Claim7.holds Tryd.pinned (.plain (OpenSpec.ofChange fnExactServerOkSpec)) fnExactServerOkCard

/-- THE TIED CARD OF 'laws.FnExactNoteOf'. -/
def fnExactNoteOfCard : Claim7 := { stood := { row := fnExactNoteOfRow, standIns := [], harness := (true, "33b41fa3aeca2f9869f54beb82952e0ec71714b488127398d37e1d44eca2549d"), looks := true }, kinds := [], alts := [], laidByText := true, laidKinds := [.data, .data, .data, .data, .sentinel, .sentinel, .pinned], laidTests := true, laidLooks := .later }
def FnExactNoteOfCardSaid : Prop := Claim7.holds Tryd.pinned (.plain (OpenSpec.ofChange fnExactNoteOfSpec)) fnExactNoteOfCard

/-- THE TIED CARD OF 'laws.FnExactWorldText'. -/
def fnExactWorldTextCard : Claim7 := { stood := { row := fnExactWorldTextRow, standIns := [], harness := (true, "33b41fa3aeca2f9869f54beb82952e0ec71714b488127398d37e1d44eca2549d"), looks := true }, kinds := [], alts := [], laidByText := true, laidKinds := [.data, .data, .data], laidTests := true, laidLooks := .later }
def FnExactWorldTextCardSaid : Prop := Claim7.holds Tryd.pinned (.plain (OpenSpec.ofChange fnExactWorldTextSpec)) fnExactWorldTextCard

/-- THE SECOND FORM's CARD OF 'laws.FnExactClientOk'. -/
def fnExactClientOkUptoCard : Claim7 := { stood := { row := fnExactClientOkUptoRow, standIns := [], harness := (true, "33b41fa3aeca2f9869f54beb82952e0ec71714b488127398d37e1d44eca2549d"), looks := true }, kinds := [], alts := [], laidByText := true, laidKinds := [.data, .pinned], laidTests := true, laidLooks := .later }
def FnExactClientOkUptoCardSaid : Prop := Claim7.holds Tryd.pinned (.plain (OpenSpec.upto fnExactClientOkSpec)) fnExactClientOkUptoCard

/-- THE SECOND FORM's CARD OF 'laws.FnExactClientNew'. -/
def fnExactClientNewUptoCard : Claim7 := { stood := { row := fnExactClientNewUptoRow, standIns := [], harness := (true, "33b41fa3aeca2f9869f54beb82952e0ec71714b488127398d37e1d44eca2549d"), looks := true }, kinds := [], alts := [], laidByText := true, laidKinds := [.data, .pinned], laidTests := true, laidLooks := .later }
def FnExactClientNewUptoCardSaid : Prop := Claim7.holds Tryd.pinned (.plain (OpenSpec.upto fnExactClientNewSpec)) fnExactClientNewUptoCard

/-- THE SECOND FORM's CARD OF 'laws.FnExactServerOk'. -/
def fnExactServerOkUptoCard : Claim7 := { stood := { row := fnExactServerOkUptoRow, standIns := [], harness := (true, "33b41fa3aeca2f9869f54beb82952e0ec71714b488127398d37e1d44eca2549d"), looks := true }, kinds := [], alts := [], laidByText := true, laidKinds := [.data, .pinned], laidTests := true, laidLooks := .later }
def FnExactServerOkUptoCardSaid : Prop := Claim7.holds Tryd.pinned (.plain (OpenSpec.upto fnExactServerOkSpec)) fnExactServerOkUptoCard

/-- THE SECOND FORM's CARD OF 'laws.FnExactNoteOf'. -/
def fnExactNoteOfUptoCard : Claim7 := { stood := { row := fnExactNoteOfUptoRow, standIns := [], harness := (true, "33b41fa3aeca2f9869f54beb82952e0ec71714b488127398d37e1d44eca2549d"), looks := true }, kinds := [], alts := [], laidByText := true, laidKinds := [.data, .data, .data, .data, .sentinel, .sentinel, .pinned], laidTests := true, laidLooks := .later }
def FnExactNoteOfUptoCardSaid : Prop := Claim7.holds Tryd.pinned (.plain (OpenSpec.upto fnExactNoteOfSpec)) fnExactNoteOfUptoCard

/-- THE SECOND FORM's CARD OF 'laws.FnExactWorldText'. -/
def fnExactWorldTextUptoCard : Claim7 := { stood := { row := fnExactWorldTextUptoRow, standIns := [], harness := (true, "33b41fa3aeca2f9869f54beb82952e0ec71714b488127398d37e1d44eca2549d"), looks := true }, kinds := [], alts := [], laidByText := true, laidKinds := [.data, .data, .data], laidTests := true, laidLooks := .later }
def FnExactWorldTextUptoCardSaid : Prop := Claim7.holds Tryd.pinned (.plain (OpenSpec.upto fnExactWorldTextSpec)) fnExactWorldTextUptoCard
end Rows
end Go.Proofs.YtepghohkfnmhmaaDoor
