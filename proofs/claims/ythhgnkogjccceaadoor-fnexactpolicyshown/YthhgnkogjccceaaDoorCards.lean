/-
  DERIVED. GIVEN WITH THE SEED: THE CARDS: each row of YthhgnkogjccceaaDoorRows.lean that lists a variable, with what it lists TIED to the program's text (the seventh form; the later family's looks); each row that meets fmt, with fmt's text TOLD by the authors' own Lean function (tested against real Go, not proved from fmt's source: count such statements apart). THE CARD IS WHAT COUNTS. Prove the row's statement (the work); the ties are given (YthhgnkogjccceaaDoorTie.lean); close each card by the builder's one call (the guide's Derived/Test/ToyasCard.lean, 'card_holds'). Laid BY PROGRAM, IN A SANDBOX (cutbox-door.mjs). By AI agents, Wed Nov 11 2026. No macro, syntax, notation, axiom, sorry.
-/
import Derived.Test.YthhgnkogjccceaaDoorRows
import GoSem.ClaimSeven
namespace Go.Proofs.YthhgnkogjccceaaDoor
namespace Rows

/-- THE TIED CARD OF 'laws.FnExactNoteText'. -/
def fnExactNoteTextCard : Claim7 := { stood := { row := fnExactNoteTextRow, standIns := [], harness := (true, "c53af271d6c10c466299b4640ef2dc0901b44a3698231a432a3f47f01c154d6a"), looks := false }, kinds := [], alts := [], laidByText := true, laidKinds := [.data, .data, .data], laidTests := true, laidLooks := .later }
def FnExactNoteTextCardSaid : Prop := Claim7.holds Tryd.pinned (.plain (OpenSpec.ofChange fnExactNoteTextSpec)) fnExactNoteTextCard

/-- THE TIED CARD OF 'laws.FnExactPolicyShown'. -/
def fnExactPolicyShownCard : Claim7 := { stood := { row := fnExactPolicyShownRow, standIns := [], harness := (true, "c53af271d6c10c466299b4640ef2dc0901b44a3698231a432a3f47f01c154d6a"), looks := false }, kinds := [], alts := [], laidByText := true, laidKinds := [.data, .data, .data], laidTests := true, laidLooks := .later }
def FnExactPolicyShownCardSaid : Prop := Claim7.holds Tryd.pinned (.plain (OpenSpec.ofChange fnExactPolicyShownSpec)) fnExactPolicyShownCard

/-- THE TIED CARD OF 'laws.FnExactLetterText'. -/
def fnExactLetterTextCard : Claim7 := { stood := { row := fnExactLetterTextRow, standIns := [], harness := (true, "c53af271d6c10c466299b4640ef2dc0901b44a3698231a432a3f47f01c154d6a"), looks := false }, kinds := [], alts := [], laidByText := true, laidKinds := [.data, .data, .data], laidTests := true, laidLooks := .later }
def FnExactLetterTextCardSaid : Prop := Claim7.holds Tryd.pinned (.plain (OpenSpec.ofChange fnExactLetterTextSpec)) fnExactLetterTextCard

/-- THE TIED CARD OF 'laws.FnExactServerText'. -/
def fnExactServerTextCard : Claim7 := { stood := { row := fnExactServerTextRow, standIns := [], harness := (true, "c53af271d6c10c466299b4640ef2dc0901b44a3698231a432a3f47f01c154d6a"), looks := false }, kinds := [], alts := [], laidByText := true, laidKinds := [.data, .data, .data], laidTests := true, laidLooks := .later }
def FnExactServerTextCardSaid : Prop := Claim7.holds Tryd.pinned (.plain (OpenSpec.ofChange fnExactServerTextSpec)) fnExactServerTextCard

/-- THE SECOND FORM's CARD OF 'laws.FnExactNoteText'. -/
def fnExactNoteTextUptoCard : Claim7 := { stood := { row := fnExactNoteTextUptoRow, standIns := [], harness := (true, "c53af271d6c10c466299b4640ef2dc0901b44a3698231a432a3f47f01c154d6a"), looks := false }, kinds := [], alts := [], laidByText := true, laidKinds := [.data, .data, .data], laidTests := true, laidLooks := .later }
def FnExactNoteTextUptoCardSaid : Prop := Claim7.holds Tryd.pinned (.plain (OpenSpec.upto fnExactNoteTextSpec)) fnExactNoteTextUptoCard

/-- THE SECOND FORM's CARD OF 'laws.FnExactPolicyShown'. -/
def fnExactPolicyShownUptoCard : Claim7 := { stood := { row := fnExactPolicyShownUptoRow, standIns := [], harness := (true, "c53af271d6c10c466299b4640ef2dc0901b44a3698231a432a3f47f01c154d6a"), looks := false }, kinds := [], alts := [], laidByText := true, laidKinds := [.data, .data, .data], laidTests := true, laidLooks := .later }
def FnExactPolicyShownUptoCardSaid : Prop := Claim7.holds Tryd.pinned (.plain (OpenSpec.upto fnExactPolicyShownSpec)) fnExactPolicyShownUptoCard

/-- THE SECOND FORM's CARD OF 'laws.FnExactLetterText'. -/
def fnExactLetterTextUptoCard : Claim7 := { stood := { row := fnExactLetterTextUptoRow, standIns := [], harness := (true, "c53af271d6c10c466299b4640ef2dc0901b44a3698231a432a3f47f01c154d6a"), looks := false }, kinds := [], alts := [], laidByText := true, laidKinds := [.data, .data, .data], laidTests := true, laidLooks := .later }
def FnExactLetterTextUptoCardSaid : Prop := Claim7.holds Tryd.pinned (.plain (OpenSpec.upto fnExactLetterTextSpec)) fnExactLetterTextUptoCard

/-- THE SECOND FORM's CARD OF 'laws.FnExactServerText'. -/
def fnExactServerTextUptoCard : Claim7 := { stood := { row := fnExactServerTextUptoRow, standIns := [], harness := (true, "c53af271d6c10c466299b4640ef2dc0901b44a3698231a432a3f47f01c154d6a"), looks := false }, kinds := [], alts := [], laidByText := true, laidKinds := [.data, .data, .data], laidTests := true, laidLooks := .later }
def FnExactServerTextUptoCardSaid : Prop := Claim7.holds Tryd.pinned (.plain (OpenSpec.upto fnExactServerTextSpec)) fnExactServerTextUptoCard
end Rows
end Go.Proofs.YthhgnkogjccceaaDoor
