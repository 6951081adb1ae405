/-
  DERIVED. GIVEN WITH THE SEED: THE CARDS: each row of YtoebfbhcbpiheaaGreatDoorRows.lean that lists a variable, with what it lists TIED to the program's text (the seventh form; the later family's looks); each row that meets fmt, with fmt's text TOLD by the authors' own Lean function (tested against real Go, not proved from fmt's source: count such statements apart). THE CARD IS WHAT COUNTS. Prove the row's statement (the work); the ties are given (YtoebfbhcbpiheaaGreatDoorTie.lean); close each card by the builder's one call (the guide's Derived/Test/ToyasCard.lean, 'card_holds'). Laid BY PROGRAM, IN A SANDBOX (cutbox-door.mjs). By AI agents, Wed Nov 11 2026. No macro, syntax, notation, axiom, sorry.
-/
import Derived.Test.YtoebfbhcbpiheaaGreatDoorRows
import GoSem.ClaimSeven
namespace Go.Proofs.YtoebfbhcbpiheaaGreatDoor
namespace Rows

/-- THE TIED CARD OF 'laws.FnExactServerNew'. -/
def fnExactServerNewCard : Claim7 := { stood := { row := fnExactServerNewRow, standIns := [], harness := (true, "0dc50ba5b814ba55436345c3fa55ae180eef66cc6e67e9db9138be86283e4f16"), looks := true }, kinds := [], alts := [], laidByText := true, laidKinds := [.data, .data, .data, .data, .pinned], laidTests := true, laidLooks := .later }
def FnExactServerNewCardSaid : Prop := Claim7.holds Tryz.pinned (.plain (OpenSpec.ofChange fnExactServerNewSpec)) fnExactServerNewCard

/-- THE TIED CARD OF 'laws.FnExactWorldOk'. -/
def fnExactWorldOkCard : Claim7 := { stood := { row := fnExactWorldOkRow, standIns := [], harness := (true, "0dc50ba5b814ba55436345c3fa55ae180eef66cc6e67e9db9138be86283e4f16"), looks := true }, kinds := [], alts := [], laidByText := true, laidKinds := [.data, .pinned], laidTests := true, laidLooks := .later }
def FnExactWorldOkCardSaid : Prop := Claim7.holds Tryz.pinned (.plain (OpenSpec.ofChange fnExactWorldOkSpec)) fnExactWorldOkCard

/-- THE TIED CARD OF 'laws.FnExactJudgeHeld'. -/
def fnExactJudgeHeldCard : Claim7 := { stood := { row := fnExactJudgeHeldRow, standIns := [], harness := (true, "0dc50ba5b814ba55436345c3fa55ae180eef66cc6e67e9db9138be86283e4f16"), looks := true }, kinds := [], alts := [], laidByText := true, laidKinds := [.data, .pinned], laidTests := true, laidLooks := .later }
def FnExactJudgeHeldCardSaid : Prop := Claim7.holds Tryz.pinned (.plain (OpenSpec.ofChange fnExactJudgeHeldSpec)) fnExactJudgeHeldCard

/-- THE TIED CARD OF 'laws.FnExactJudgeTaken'. -/
def fnExactJudgeTakenCard : Claim7 := { stood := { row := fnExactJudgeTakenRow, standIns := [], harness := (true, "0dc50ba5b814ba55436345c3fa55ae180eef66cc6e67e9db9138be86283e4f16"), looks := true }, kinds := [], alts := [], laidByText := true, laidKinds := [.data, .pinned], laidTests := true, laidLooks := .later }
def FnExactJudgeTakenCardSaid : Prop := Claim7.holds Tryz.pinned (.plain (OpenSpec.ofChange fnExactJudgeTakenSpec)) fnExactJudgeTakenCard

/-- THE TIED CARD OF 'laws.FnExactJudgeSecret'. -/
def fnExactJudgeSecretCard : Claim7 := { stood := { row := fnExactJudgeSecretRow, standIns := [], harness := (true, "0dc50ba5b814ba55436345c3fa55ae180eef66cc6e67e9db9138be86283e4f16"), looks := true }, kinds := [], alts := [], laidByText := true, laidKinds := [.data, .pinned], laidTests := true, laidLooks := .later }
def FnExactJudgeSecretCardSaid : Prop := Claim7.holds Tryz.pinned (.plain (OpenSpec.ofChange fnExactJudgeSecretSpec)) fnExactJudgeSecretCard

/-- THE TIED CARD OF 'laws.FnExactWorldNew'. -/
def fnExactWorldNewCard : Claim7 := { stood := { row := fnExactWorldNewRow, standIns := [], harness := (true, "0dc50ba5b814ba55436345c3fa55ae180eef66cc6e67e9db9138be86283e4f16"), looks := true }, kinds := [], alts := [], laidByText := true, laidKinds := [.data, .data, .data, .data, .pinned], laidTests := true, laidLooks := .later }
def FnExactWorldNewCardSaid : Prop := Claim7.holds Tryz.pinned (.plain (OpenSpec.ofChange fnExactWorldNewSpec)) fnExactWorldNewCard

/-- THE TIED CARD OF 'laws.FnExactJudgeBook'. -/
def fnExactJudgeBookCard : Claim7 := { stood := { row := fnExactJudgeBookRow, standIns := [], harness := (true, "0dc50ba5b814ba55436345c3fa55ae180eef66cc6e67e9db9138be86283e4f16"), looks := true }, kinds := [], alts := [], laidByText := true, laidKinds := [.data, .data, .data, .data, .sentinel, .sentinel, .pinned], laidTests := true, laidLooks := .later }
def FnExactJudgeBookCardSaid : Prop := Claim7.holds Tryz.pinned (.plain (OpenSpec.ofChange fnExactJudgeBookSpec)) fnExactJudgeBookCard

/-- THE TIED CARD OF 'laws.FnExactJudgeAll'. -/
def fnExactJudgeAllCard : Claim7 := { stood := { row := fnExactJudgeAllRow, standIns := [], harness := (true, "0dc50ba5b814ba55436345c3fa55ae180eef66cc6e67e9db9138be86283e4f16"), looks := true }, kinds := [], alts := [], laidByText := true, laidKinds := [.data, .data, .data, .data, .sentinel, .sentinel, .pinned], laidTests := true, laidLooks := .later }
def FnExactJudgeAllCardSaid : Prop := Claim7.holds Tryz.pinned (.plain (OpenSpec.ofChange fnExactJudgeAllSpec)) fnExactJudgeAllCard

/-- THE SECOND FORM's CARD OF 'laws.FnExactServerNew'. -/
def fnExactServerNewUptoCard : Claim7 := { stood := { row := fnExactServerNewUptoRow, standIns := [], harness := (true, "0dc50ba5b814ba55436345c3fa55ae180eef66cc6e67e9db9138be86283e4f16"), looks := true }, kinds := [], alts := [], laidByText := true, laidKinds := [.data, .data, .data, .data, .pinned], laidTests := true, laidLooks := .later }
def FnExactServerNewUptoCardSaid : Prop := Claim7.holds Tryz.pinned (.plain (OpenSpec.upto fnExactServerNewSpec)) fnExactServerNewUptoCard

/-- THE SECOND FORM's CARD OF 'laws.FnExactWorldOk'. -/
def fnExactWorldOkUptoCard : Claim7 := { stood := { row := fnExactWorldOkUptoRow, standIns := [], harness := (true, "0dc50ba5b814ba55436345c3fa55ae180eef66cc6e67e9db9138be86283e4f16"), looks := true }, kinds := [], alts := [], laidByText := true, laidKinds := [.data, .pinned], laidTests := true, laidLooks := .later }
def FnExactWorldOkUptoCardSaid : Prop := Claim7.holds Tryz.pinned (.plain (OpenSpec.upto fnExactWorldOkSpec)) fnExactWorldOkUptoCard

/-- THE SECOND FORM's CARD OF 'laws.FnExactJudgeHeld'. -/
def fnExactJudgeHeldUptoCard : Claim7 := { stood := { row := fnExactJudgeHeldUptoRow, standIns := [], harness := (true, "0dc50ba5b814ba55436345c3fa55ae180eef66cc6e67e9db9138be86283e4f16"), looks := true }, kinds := [], alts := [], laidByText := true, laidKinds := [.data, .pinned], laidTests := true, laidLooks := .later }
def FnExactJudgeHeldUptoCardSaid : Prop := Claim7.holds Tryz.pinned (.plain (OpenSpec.upto fnExactJudgeHeldSpec)) fnExactJudgeHeldUptoCard

/-- THE SECOND FORM's CARD OF 'laws.FnExactJudgeTaken'. -/
def fnExactJudgeTakenUptoCard : Claim7 := { stood := { row := fnExactJudgeTakenUptoRow, standIns := [], harness := (true, "0dc50ba5b814ba55436345c3fa55ae180eef66cc6e67e9db9138be86283e4f16"), looks := true }, kinds := [], alts := [], laidByText := true, laidKinds := [.data, .pinned], laidTests := true, laidLooks := .later }
def FnExactJudgeTakenUptoCardSaid : Prop := Claim7.holds Tryz.pinned (.plain (OpenSpec.upto fnExactJudgeTakenSpec)) fnExactJudgeTakenUptoCard

/-- THE SECOND FORM's CARD OF 'laws.FnExactJudgeSecret'. -/
def fnExactJudgeSecretUptoCard : Claim7 := { stood := { row := fnExactJudgeSecretUptoRow, standIns := [], harness := (true, "0dc50ba5b814ba55436345c3fa55ae180eef66cc6e67e9db9138be86283e4f16"), looks := true }, kinds := [], alts := [], laidByText := true, laidKinds := [.data, .pinned], laidTests := true, laidLooks := .later }
def FnExactJudgeSecretUptoCardSaid : Prop := Claim7.holds Tryz.pinned (.plain (OpenSpec.upto fnExactJudgeSecretSpec)) fnExactJudgeSecretUptoCard

/-- THE SECOND FORM's CARD OF 'laws.FnExactWorldNew'. -/
def fnExactWorldNewUptoCard : Claim7 := { stood := { row := fnExactWorldNewUptoRow, standIns := [], harness := (true, "0dc50ba5b814ba55436345c3fa55ae180eef66cc6e67e9db9138be86283e4f16"), looks := true }, kinds := [], alts := [], laidByText := true, laidKinds := [.data, .data, .data, .data, .pinned], laidTests := true, laidLooks := .later }
def FnExactWorldNewUptoCardSaid : Prop := Claim7.holds Tryz.pinned (.plain (OpenSpec.upto fnExactWorldNewSpec)) fnExactWorldNewUptoCard

/-- THE SECOND FORM's CARD OF 'laws.FnExactJudgeBook'. -/
def fnExactJudgeBookUptoCard : Claim7 := { stood := { row := fnExactJudgeBookUptoRow, standIns := [], harness := (true, "0dc50ba5b814ba55436345c3fa55ae180eef66cc6e67e9db9138be86283e4f16"), looks := true }, kinds := [], alts := [], laidByText := true, laidKinds := [.data, .data, .data, .data, .sentinel, .sentinel, .pinned], laidTests := true, laidLooks := .later }
def FnExactJudgeBookUptoCardSaid : Prop := Claim7.holds Tryz.pinned (.plain (OpenSpec.upto fnExactJudgeBookSpec)) fnExactJudgeBookUptoCard

/-- THE SECOND FORM's CARD OF 'laws.FnExactJudgeAll'. -/
def fnExactJudgeAllUptoCard : Claim7 := { stood := { row := fnExactJudgeAllUptoRow, standIns := [], harness := (true, "0dc50ba5b814ba55436345c3fa55ae180eef66cc6e67e9db9138be86283e4f16"), looks := true }, kinds := [], alts := [], laidByText := true, laidKinds := [.data, .data, .data, .data, .sentinel, .sentinel, .pinned], laidTests := true, laidLooks := .later }
def FnExactJudgeAllUptoCardSaid : Prop := Claim7.holds Tryz.pinned (.plain (OpenSpec.upto fnExactJudgeAllSpec)) fnExactJudgeAllUptoCard
end Rows
end Go.Proofs.YtoebfbhcbpiheaaGreatDoor
