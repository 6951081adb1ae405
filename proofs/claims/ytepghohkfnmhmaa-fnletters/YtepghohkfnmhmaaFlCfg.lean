/-
  The machine over the program of this seat.
-/
import Derived.Test.YtepghohkfnmhmaaRows
import Derived.Test.YtepghohkfnmhmaaVm5r
import Derived.Test.YtepghohkfnmhmaaVm6
namespace Go.Proofs.Ytepghohkfnmhmaa
open Go.Vm

def ks : List (TypeId × Kind) := [(22, .byte), (35, .term), (36, .policy), (37, .host), (38, .letter), (39, .call), (40, .talk), (41, .int), (46, .term), (47, .policy), (48, .host), (49, .letter), (50, .call), (51, .talk), (98, .str)]

def lhs (f r : Nat) : LoopH := match f, r with
  | 23, 3 => ⟨⟨[0, 3, 4], [], []⟩, ⟨[0, 3], [], []⟩, [(0, .sl .byte), (3, .int)], [], [0]⟩
  | 30, 2 => ⟨⟨[0, 2, 5, 6], [], []⟩, ⟨[0, 2], [], []⟩, [(0, .str), (2, .bool)], [], [0]⟩
  | 33, 2 => ⟨⟨[0, 2, 3], [], []⟩, ⟨[0, 2], [], []⟩, [(0, .str), (2, .bool)], [], [0]⟩
  | 57, 3 => ⟨⟨[0, 2, 3, 4], [.arg 0, .own 2, .own 3], []⟩, ⟨[0, 2, 3], [.arg 0, .own 2, .own 3], []⟩, [(0, .bx (.arg 0) 0), (2, .bx (.own 2) 0), (3, .bx (.own 3) 0)], [(.arg 0, .box [.sl .byte, .int, .int]), (.own 2, .recd (.el .letter)), (.own 3, .recd (.el .letter))], [0]⟩
  | _, _ => ⟨⟨[], [], []⟩, ⟨[], [], []⟩, [], [], []⟩

def hms (_ b : Nat) : Vm.Mode := match b with
  | 5 => .pure
  | 6 => .pure
  | 7 => .pure
  | 8 => .pure
  | 9 => .pure
  | 10 => .pure
  | 11 => .pure
  | 12 => .pure
  | 13 => .pure
  | 14 => .pure
  | 15 => .pure
  | 16 => .pure
  | 17 => .pure
  | 26 => .pure
  | 27 => .pure
  | 28 => .pure
  | 30 => .pure
  | 31 => .pure
  | 32 => .pure
  | 33 => .pure
  | 24 => .heap
  | 25 => .heap
  | 29 => .heap
  | 57 => .heap
  | 58 => .heap
  | 77 => .heap
  | 78 => .heap
  | 88 => .heap
  | _ => .inline

def shs (t : Nat) : Sh := match t with
  | 0 => .tup []
  | 3 => .int
  | 4 => .bool
  | 5 => .u8
  | 6 => .u8
  | 9 => .str
  | 10 => .str
  | 11 => .str
  | 22 => .sl .byte
  | 25 => .el .letter
  | 26 => .tup [.el .letter, .int]
  | 28 => .tup [.el .letter, .bool]
  | 35 => .sl .term
  | 36 => .sl .policy
  | 37 => .sl .host
  | 38 => .sl .letter
  | 39 => .sl .call
  | 40 => .sl .talk
  | 41 => .sl .int
  | 43 => .world
  | 46 => .sl .term
  | 47 => .sl .policy
  | 48 => .sl .host
  | 49 => .sl .letter
  | 50 => .sl .call
  | 51 => .sl .talk
  | 53 => .world
  | 74 => .el .host
  | 96 => .el .term
  | 98 => .sl .str
  | 100 => .el .policy
  | 102 => .el .host
  | 104 => .el .letter
  | 107 => .client
  | 109 => .el .call
  | 112 => .server
  | 114 => .el .talk
  | 116 => .el .term
  | 118 => .el .policy
  | 123 => .client
  | 125 => .el .call
  | 128 => .server
  | 130 => .el .talk
  | 159 => .u8
  | 160 => .u8
  | _ => .raw

def dls (f r : Nat) : List Vm.Id := match f, r with
  | 6, 3 => [.ret 7 0]
  | 9, 3 => [.ret 7 0]
  | 57, 5 => [.arg 0]
  | 57, 7 => [.arg 0]
  | _, _ => []

noncomputable def cfg : Cfg where
  tb := tbOf Try.prog ks
  hm := hms
  sh := shs
  eqT := eqOf Try.prog [25, 74]
  lh := lhs
  dl := dls
  ext := fun _ => none

noncomputable abbrev RN := rn Try.prog cfg

set_option maxRecDepth 100000 in
theorem progOK : ProgOK Gl.none Try.prog cfg where
  wide := by kernel_rfl
  tab := tabOK_of (ks := ks) (es := [25, 74]) rfl rfl
  nm := names_of (by kernel_rfl)
  ext := fun f g args objs r h => by cases h

theorem ksOk' : ksOk Try.prog ks ks = true := by kernel_rfl

end Go.Proofs.Ytepghohkfnmhmaa
