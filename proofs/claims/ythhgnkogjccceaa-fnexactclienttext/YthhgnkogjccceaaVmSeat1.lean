/-
  The machine over the program of this seat.
-/
import Derived.Test.YthhgnkogjccceaaRows
import Derived.Test.YthhgnkogjccceaaVmLaw
import Derived.Test.YthhgnkogjccceaaVmLoop
namespace Go.Proofs.Ythhgnkogjccceaa
open Go.Vm

def ks : List (TypeId × Kind) := [(43, .term), (50, .term), (71, .str), (77, .byte)]

def lhs (f r : Nat) : LoopH := match f, r with
  | 35, 2 => ⟨⟨[0, 2, 3], [], []⟩, ⟨[0, 2], [], []⟩, [(0, .str), (2, .bool)], [], [0]⟩
  | 37, 2 => ⟨⟨[0, 2, 5, 6], [], []⟩, ⟨[0, 2], [], []⟩, [(0, .str), (2, .bool)], [], [0]⟩
  | 44, 4 => ⟨⟨[0, 1, 4, 5], [], []⟩, ⟨[4], [], []⟩, [(4, .bool)], [], [0]⟩
  | 52, 5 => ⟨⟨[0, 1, 4, 5], [], []⟩, ⟨[1, 4], [], []⟩, [(1, .int), (4, .int)], [], [0]⟩
  | 53, 3 => ⟨⟨[0, 3, 4], [], [(.slot 3, .own 3)]⟩, ⟨[3], [], [(.slot 3, .own 3)]⟩, [(3, .row (.own 3) .term)], [(.own 3, .row true .term)], [0]⟩
  | 45, 2 => ⟨⟨[0, 1, 5], [], []⟩, ⟨[1], [], []⟩, [(1, .int)], [], [0]⟩
  | 46, 2 => ⟨⟨[0, 1, 4, 5], [], []⟩, ⟨[1, 4], [], []⟩, [(1, .int), (4, .int)], [], [0]⟩
  | _, _ => ⟨⟨[], [], []⟩, ⟨[], [], []⟩, [], [], []⟩

def hms (_ b : Nat) : Vm.Mode := match b with
  | 14 => .pure
  | 15 => .pure
  | 18 => .pure
  | 20 => .pure
  | 22 => .pure
  | 23 => .pure
  | 24 => .pure
  | 27 => .pure
  | 30 => .pure
  | 31 => .pure
  | 32 => .pure
  | 33 => .pure
  | 34 => .pure
  | 35 => .pure
  | 37 => .pure
  | 44 => .pure
  | 46 => .pure
  | 47 => .pure
  | 48 => .pure
  | 49 => .pure
  | 50 => .pure
  | 51 => .pure
  | 52 => .pure
  | 53 => .pure
  | _ => .inline

def shs (t : Nat) : Sh := match t with
  | 0 => .tup []
  | 3 => .int
  | 4 => .bool
  | 5 => .u8
  | 6 => .u8
  | 9 => .str
  | 10 => .str
  | 11 => .str
  | 23 => .el .letter
  | 26 => .el .letter
  | 35 => .el .note
  | 38 => .el .note
  | 41 => .tup [.el .letter, .bool]
  | 43 => .sl .term
  | 45 => .el .term
  | 50 => .sl .term
  | 52 => .el .term
  | 54 => .client
  | 58 => .client
  | 71 => .sl .str
  | 77 => .sl .byte
  | 86 => .u8
  | 87 => .u8
  | _ => .raw

def dls (f r : Nat) : List Vm.Id := match f, r with
  | 22, 8 => [.own 3]
  | _, _ => []

noncomputable def cfg : Cfg where
  tb := tbOf Try.prog ks
  hm := hms
  sh := shs
  eqT := eqOf Try.prog [38, 26]
  lh := lhs
  dl := dls
  ext := fun _ => none

noncomputable abbrev RN := rn Try.prog cfg

theorem progOK : ProgOK Try.prog cfg where
  wide := by kernel_rfl
  tab := tabOK_of (ks := ks) (es := [38, 26]) rfl rfl
  nm := names_of (by kernel_rfl)
  ext := fun f g args objs r h => by cases h

theorem ksOk' : ksOk Try.prog ks ks = true := by kernel_rfl

end Go.Proofs.Ythhgnkogjccceaa
