/-
  The first seat: the machine over its program.
-/
import Derived.Test.YthhgnkogjccceaaRows
import Derived.Test.YthhgnkogjccceaaVmLaw
import Derived.Test.YthhgnkogjccceaaVmLoop
namespace Go.Proofs.Ythhgnkogjccceaa
open Go.Vm

def ks : List (TypeId × Kind) := [(43, .term), (50, .term), (71, .str)]

def lhs (f r : Nat) : LoopH := match f, r with
  | 35, 2 => ⟨⟨[0, 2, 3], [], []⟩, ⟨[0, 2], [], []⟩, [(0, .str), (2, .bool)], [], [0]⟩
  | 37, 2 => ⟨⟨[0, 2, 5, 6], [], []⟩, ⟨[0, 2], [], []⟩, [(0, .str), (2, .bool)], [], [0]⟩
  | _, _ => ⟨⟨[], [], []⟩, ⟨[], [], []⟩, [], [], []⟩

def hms (_ b : Nat) : Vm.Mode := match b with
  | 35 => .pure | 37 => .pure | 14 => .pure | 15 => .pure | 20 => .pure | 22 => .pure
  | _ => .inline

def shs (t : Nat) : Sh := match t with
  | 4 => .bool | 3 => .int | 9 => .str | 26 => .el .letter | 38 => .el .note | 45 => .el .term
  | _ => .raw

noncomputable def cfg : Cfg where
  tb := tbOf Try.prog ks
  hm := hms
  sh := shs
  eqT := eqOf Try.prog []
  lh := lhs
  ext := fun _ => none

noncomputable abbrev RN := rn Try.prog cfg

theorem progOK : ProgOK Try.prog cfg where
  wide := by kernel_rfl
  tab := tabOK_of (ks := ks) (es := []) rfl rfl
  nm := names_of (by kernel_rfl)
  ext := fun f g args objs r h => by cases h

theorem ksOk' : ksOk Try.prog ks ks = true := by kernel_rfl

/-! ### domainOk, l6Domain -/

/-- From place i on, all bytes are small letters. -/
def lowFrom (s : ByteArray) (i : Nat) : Nat → Bool
  | 0 => true
  | n + 1 => match s[i]? with
    | none => true
    | some b => !(b.toNat < 97 || b.toNat > 122) && lowFrom s (i + 1) n

def domOk (s : ByteArray) : Bool := lowFrom s 0 s.size && decide (1 ≤ s.size ∧ s.size ≤ 10)

theorem byteAt_nat {s : ByteArray} {i : Nat} {b : UInt8} (h : s[i]? = some b) : byteAt s (i : Int) = some (b.toNat : Int) := by
  unfold byteAt
  rw [if_pos (by omega), show (i : Int).toNat = i by omega, h]
  rfl

theorem wrap_small {i : Int} (h0 : -9223372036854775808 ≤ i) (h1 : i ≤ 9223372036854775807) : IntKind.i64.wrap i = i := by
  rw [IntKind.wrap_i64]
  omega

end Go.Proofs.Ythhgnkogjccceaa
