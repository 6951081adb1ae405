/-
  NARROWER THAN 'FOR EVERY INPUT', by the rows' own cells (each row's printed sentence says how): FnExactClientText: loops.
  DERIVED. THE GIVEN ROWS OF THIS SEAT. 7 by the template 'for every input the law returns true; each argument reads behind the call as it read before'; 0 by the template 'total and deterministic' (their statements: YthhgnkogjccceaaTotals.lean).
  GIVEN WITH THE SEED: the statements are not yours to turn. If you find one false, say at which input.
  Laid BY PROGRAM, IN A SANDBOX (cutbox-rows.mjs): the forced cells as the released guide's own fill.sh prints them over the translation 6db72d7a590d2c1e… (all of the seat's roots in one cut). By AI agents, Wed Nov 11 2026. No macro, syntax, notation, axiom, sorry.
-/
import Derived.Test.YthhgnkogjccceaaChecked
import GoSem.Claim
import GoSem.ClaimJoined
import GoSem.ClaimMapViews
import Derived.JoinedTies
import Derived.KernelRfl
namespace Go.Proofs.Ythhgnkogjccceaa
/- THE CELL 'sum', in the pinned program and in every row, IS THE sha256 OF THE DUMP (.gsa) THAT YthhgnkogjccceaaProg.lean LOADS. Nothing in Lean hashes anything: it is a label: what it is worth is what the hold of that sum in a sandbox is worth. -/
noncomputable def Try.pinned : Pinned := { name := "ythhgnkogjccceaa", sum := "6db72d7a590d2c1e97635c14c8a6e90f55272cc99555a3ff78623dbe4cd3d486", checked := Try.checked }
namespace Rows
def none {H : Type} : Left H := { results := [], args := [] }

/-- 'laws.FnExactSpent': WHATEVER THE INPUT: true; the input reads as it did. -/
def fnExactSpentSpec : ChangeSpec := { name := "fnExactSpent", fn := fun _ => fun
  | [d1, d2] => { results := [.lit (.bool true)], args := [d1, d2] }
  | _ => none }
def fnExactSpentRow : OpenClaim := { program := "ythhgnkogjccceaa", sum := "6db72d7a590d2c1e97635c14c8a6e90f55272cc99555a3ff78623dbe4cd3d486", func := "loop.example/g00328/laws.FnExactSpent", spec := "fnExactSpent", apart := false }
def FnExactSpentSaid : Prop := fnExactSpentRow.holds Try.pinned (OpenSpec.ofChange fnExactSpentSpec)

/-- ITS FALSE NEIGHBOUR: 'it returns false'. Refute it at one input. -/
def fnExactSpentWrong : ChangeSpec := { name := "fnExactSpent", fn := fun _ => fun
  | [d1, d2] => { results := [.lit (.bool false)], args := [d1, d2] }
  | _ => none }
def FnExactSpentWrongFalsely : Prop := fnExactSpentRow.holds Try.pinned (OpenSpec.ofChange fnExactSpentWrong)

/-- 'laws.FnExactLetterOk': WHATEVER THE INPUT: true; the input reads as it did. -/
def fnExactLetterOkSpec : ChangeSpec := { name := "fnExactLetterOk", fn := fun _ => fun
  | [d] => { results := [.lit (.bool true)], args := [d] }
  | _ => none }
def fnExactLetterOkRow : OpenClaim := { program := "ythhgnkogjccceaa", sum := "6db72d7a590d2c1e97635c14c8a6e90f55272cc99555a3ff78623dbe4cd3d486", func := "loop.example/g00328/laws.FnExactLetterOk", spec := "fnExactLetterOk", apart := false }
def FnExactLetterOkSaid : Prop := fnExactLetterOkRow.holds Try.pinned (OpenSpec.ofChange fnExactLetterOkSpec)

/-- ITS FALSE NEIGHBOUR: 'it returns false'. Refute it at one input. -/
def fnExactLetterOkWrong : ChangeSpec := { name := "fnExactLetterOk", fn := fun _ => fun
  | [d] => { results := [.lit (.bool false)], args := [d] }
  | _ => none }
def FnExactLetterOkWrongFalsely : Prop := fnExactLetterOkRow.holds Try.pinned (OpenSpec.ofChange fnExactLetterOkWrong)

/-- 'laws.FnExactLetterEnd': WHATEVER THE INPUT: true; the input reads as it did. -/
def fnExactLetterEndSpec : ChangeSpec := { name := "fnExactLetterEnd", fn := fun _ => fun
  | [d1, d2] => { results := [.lit (.bool true)], args := [d1, d2] }
  | _ => none }
def fnExactLetterEndRow : OpenClaim := { program := "ythhgnkogjccceaa", sum := "6db72d7a590d2c1e97635c14c8a6e90f55272cc99555a3ff78623dbe4cd3d486", func := "loop.example/g00328/laws.FnExactLetterEnd", spec := "fnExactLetterEnd", apart := false }
def FnExactLetterEndSaid : Prop := fnExactLetterEndRow.holds Try.pinned (OpenSpec.ofChange fnExactLetterEndSpec)

/-- ITS FALSE NEIGHBOUR: 'it returns false'. Refute it at one input. -/
def fnExactLetterEndWrong : ChangeSpec := { name := "fnExactLetterEnd", fn := fun _ => fun
  | [d1, d2] => { results := [.lit (.bool false)], args := [d1, d2] }
  | _ => none }
def FnExactLetterEndWrongFalsely : Prop := fnExactLetterEndRow.holds Try.pinned (OpenSpec.ofChange fnExactLetterEndWrong)

/-- 'laws.FnExactNoteOk': WHATEVER THE INPUT: true; the input reads as it did. -/
def fnExactNoteOkSpec : ChangeSpec := { name := "fnExactNoteOk", fn := fun _ => fun
  | [d] => { results := [.lit (.bool true)], args := [d] }
  | _ => none }
def fnExactNoteOkRow : OpenClaim := { program := "ythhgnkogjccceaa", sum := "6db72d7a590d2c1e97635c14c8a6e90f55272cc99555a3ff78623dbe4cd3d486", func := "loop.example/g00328/laws.FnExactNoteOk", spec := "fnExactNoteOk", apart := false }
def FnExactNoteOkSaid : Prop := fnExactNoteOkRow.holds Try.pinned (OpenSpec.ofChange fnExactNoteOkSpec)

/-- ITS FALSE NEIGHBOUR: 'it returns false'. Refute it at one input. -/
def fnExactNoteOkWrong : ChangeSpec := { name := "fnExactNoteOk", fn := fun _ => fun
  | [d] => { results := [.lit (.bool false)], args := [d] }
  | _ => none }
def FnExactNoteOkWrongFalsely : Prop := fnExactNoteOkRow.holds Try.pinned (OpenSpec.ofChange fnExactNoteOkWrong)

/-- 'laws.FnExactLetterTry': WHATEVER THE INPUT: true; the input reads as it did. -/
def fnExactLetterTrySpec : ChangeSpec := { name := "fnExactLetterTry", fn := fun _ => fun
  | [d1, d2] => { results := [.lit (.bool true)], args := [d1, d2] }
  | _ => none }
def fnExactLetterTryRow : OpenClaim := { program := "ythhgnkogjccceaa", sum := "6db72d7a590d2c1e97635c14c8a6e90f55272cc99555a3ff78623dbe4cd3d486", func := "loop.example/g00328/laws.FnExactLetterTry", spec := "fnExactLetterTry", apart := false }
def FnExactLetterTrySaid : Prop := fnExactLetterTryRow.holds Try.pinned (OpenSpec.ofChange fnExactLetterTrySpec)

/-- ITS FALSE NEIGHBOUR: 'it returns false'. Refute it at one input. -/
def fnExactLetterTryWrong : ChangeSpec := { name := "fnExactLetterTry", fn := fun _ => fun
  | [d1, d2] => { results := [.lit (.bool false)], args := [d1, d2] }
  | _ => none }
def FnExactLetterTryWrongFalsely : Prop := fnExactLetterTryRow.holds Try.pinned (OpenSpec.ofChange fnExactLetterTryWrong)

/-- 'laws.FnExactGreeting': WHATEVER THE INPUT: true; the input reads as it did. -/
def fnExactGreetingSpec : ChangeSpec := { name := "fnExactGreeting", fn := fun _ => fun
  | [] => { results := [.lit (.bool true)], args := [] }
  | _ => none }
def fnExactGreetingRow : OpenClaim := { program := "ythhgnkogjccceaa", sum := "6db72d7a590d2c1e97635c14c8a6e90f55272cc99555a3ff78623dbe4cd3d486", func := "loop.example/g00328/laws.FnExactGreeting", spec := "fnExactGreeting", recurses := true, apart := false }
def FnExactGreetingSaid : Prop := fnExactGreetingRow.holds Try.pinned (OpenSpec.ofChange fnExactGreetingSpec)

/-- ITS FALSE NEIGHBOUR: 'it returns false'. Refute it at one input. -/
def fnExactGreetingWrong : ChangeSpec := { name := "fnExactGreeting", fn := fun _ => fun
  | [] => { results := [.lit (.bool false)], args := [] }
  | _ => none }
def FnExactGreetingWrongFalsely : Prop := fnExactGreetingRow.holds Try.pinned (OpenSpec.ofChange fnExactGreetingWrong)

/-- 'laws.FnExactClientText': WHATEVER THE INPUT: true; the input reads as it did. -/
def fnExactClientTextSpec : ChangeSpec := { name := "fnExactClientText", fn := fun _ => fun
  | [d] => { results := [.lit (.bool true)], args := [d] }
  | _ => none }
def fnExactClientTextRow : OpenClaim := { program := "ythhgnkogjccceaa", sum := "6db72d7a590d2c1e97635c14c8a6e90f55272cc99555a3ff78623dbe4cd3d486", func := "loop.example/g00328/laws.FnExactClientText", spec := "fnExactClientText", recurses := true, loops := true, apart := false }
def FnExactClientTextSaid : Prop := fnExactClientTextRow.holds Try.pinned (OpenSpec.ofChange fnExactClientTextSpec)

/-- ITS FALSE NEIGHBOUR: 'it returns false'. Refute it at one input. -/
def fnExactClientTextWrong : ChangeSpec := { name := "fnExactClientText", fn := fun _ => fun
  | [d] => { results := [.lit (.bool false)], args := [d] }
  | _ => none }
def FnExactClientTextWrongFalsely : Prop := fnExactClientTextRow.holds Try.pinned (OpenSpec.ofChange fnExactClientTextWrong)

/- THE SECOND FORM. 'bulk': how many values and letters a reading holds, each counted each time it is reached (what is shared counts as often as it is met; a slice's spare places count too). A statement '..UptoSaid' is the law's where the arguments, and the package variables that the reading takes, are together of bulk at most 1048576: NARROWER than '..Said'. Prove '..Said' where nothing that the law and all that it calls make is longer than what came in: it says more and counts as full. Else prove '..UptoSaid'. A law counts once. -/
mutual
def uptoBulk {H : Type} : DataW H → Nat
  | .lit (.string bytes) => bytes.length + 1
  | .lit _ => 1
  | .nil => 1
  | .ptr d => uptoBulk d + 1
  | .slice elems spare => uptoBulkAll elems + uptoBulkAll spare + 1
  | .agg parts => uptoBulkAll parts + 1
  | .iface _ d => uptoBulk d + 1
  | .map entries => uptoBulkEntries entries + 1
  | .held _ => 1
def uptoBulkAll {H : Type} : List (DataW H) → Nat
  | [] => 0
  | d :: r => uptoBulk d + uptoBulkAll r
def uptoBulkEntries {H : Type} : List (Lit × DataW H) → Nat
  | [] => 0
  | x :: r => uptoBulkEntry x + uptoBulkEntries r
def uptoBulkEntry {H : Type} : Lit × DataW H → Nat
  | (.string bytes, d) => bytes.length + uptoBulk d + 1
  | (_, d) => uptoBulk d + 1
 end
def uptoSmall : (H : Type) → List (DataW H) → Bool := fun _ ds => decide (uptoBulkAll ds ≤ 1048576)
def OpenSpec.upto (s : _root_.Go.ChangeSpec) : _root_.Go.OpenSpec := { _root_.Go.OpenSpec.ofChange s with cond := some uptoSmall }

/-- 'laws.FnExactSpent', WHERE WHAT IT READS IS OF BULK AT MOST 1048576: true; the input reads as it did. -/
def fnExactSpentUptoRow : OpenClaim := { program := "ythhgnkogjccceaa", sum := "6db72d7a590d2c1e97635c14c8a6e90f55272cc99555a3ff78623dbe4cd3d486", func := "loop.example/g00328/laws.FnExactSpent", spec := "fnExactSpent", apart := false, narrowed := true }
def FnExactSpentUptoSaid : Prop := fnExactSpentUptoRow.holds Try.pinned (OpenSpec.upto fnExactSpentSpec)

/-- 'laws.FnExactLetterOk', WHERE WHAT IT READS IS OF BULK AT MOST 1048576: true; the input reads as it did. -/
def fnExactLetterOkUptoRow : OpenClaim := { program := "ythhgnkogjccceaa", sum := "6db72d7a590d2c1e97635c14c8a6e90f55272cc99555a3ff78623dbe4cd3d486", func := "loop.example/g00328/laws.FnExactLetterOk", spec := "fnExactLetterOk", apart := false, narrowed := true }
def FnExactLetterOkUptoSaid : Prop := fnExactLetterOkUptoRow.holds Try.pinned (OpenSpec.upto fnExactLetterOkSpec)

/-- 'laws.FnExactLetterEnd', WHERE WHAT IT READS IS OF BULK AT MOST 1048576: true; the input reads as it did. -/
def fnExactLetterEndUptoRow : OpenClaim := { program := "ythhgnkogjccceaa", sum := "6db72d7a590d2c1e97635c14c8a6e90f55272cc99555a3ff78623dbe4cd3d486", func := "loop.example/g00328/laws.FnExactLetterEnd", spec := "fnExactLetterEnd", apart := false, narrowed := true }
def FnExactLetterEndUptoSaid : Prop := fnExactLetterEndUptoRow.holds Try.pinned (OpenSpec.upto fnExactLetterEndSpec)

/-- 'laws.FnExactNoteOk', WHERE WHAT IT READS IS OF BULK AT MOST 1048576: true; the input reads as it did. -/
def fnExactNoteOkUptoRow : OpenClaim := { program := "ythhgnkogjccceaa", sum := "6db72d7a590d2c1e97635c14c8a6e90f55272cc99555a3ff78623dbe4cd3d486", func := "loop.example/g00328/laws.FnExactNoteOk", spec := "fnExactNoteOk", apart := false, narrowed := true }
def FnExactNoteOkUptoSaid : Prop := fnExactNoteOkUptoRow.holds Try.pinned (OpenSpec.upto fnExactNoteOkSpec)

/-- 'laws.FnExactLetterTry', WHERE WHAT IT READS IS OF BULK AT MOST 1048576: true; the input reads as it did. -/
def fnExactLetterTryUptoRow : OpenClaim := { program := "ythhgnkogjccceaa", sum := "6db72d7a590d2c1e97635c14c8a6e90f55272cc99555a3ff78623dbe4cd3d486", func := "loop.example/g00328/laws.FnExactLetterTry", spec := "fnExactLetterTry", apart := false, narrowed := true }
def FnExactLetterTryUptoSaid : Prop := fnExactLetterTryUptoRow.holds Try.pinned (OpenSpec.upto fnExactLetterTrySpec)

/-- 'laws.FnExactGreeting', WHERE WHAT IT READS IS OF BULK AT MOST 1048576: true; the input reads as it did. -/
def fnExactGreetingUptoRow : OpenClaim := { program := "ythhgnkogjccceaa", sum := "6db72d7a590d2c1e97635c14c8a6e90f55272cc99555a3ff78623dbe4cd3d486", func := "loop.example/g00328/laws.FnExactGreeting", spec := "fnExactGreeting", recurses := true, apart := false, narrowed := true }
def FnExactGreetingUptoSaid : Prop := fnExactGreetingUptoRow.holds Try.pinned (OpenSpec.upto fnExactGreetingSpec)

/-- 'laws.FnExactClientText', WHERE WHAT IT READS IS OF BULK AT MOST 1048576: true; the input reads as it did. -/
def fnExactClientTextUptoRow : OpenClaim := { program := "ythhgnkogjccceaa", sum := "6db72d7a590d2c1e97635c14c8a6e90f55272cc99555a3ff78623dbe4cd3d486", func := "loop.example/g00328/laws.FnExactClientText", spec := "fnExactClientText", recurses := true, loops := true, apart := false, narrowed := true }
def FnExactClientTextUptoSaid : Prop := fnExactClientTextUptoRow.holds Try.pinned (OpenSpec.upto fnExactClientTextSpec)

end Rows
end Go.Proofs.Ythhgnkogjccceaa
