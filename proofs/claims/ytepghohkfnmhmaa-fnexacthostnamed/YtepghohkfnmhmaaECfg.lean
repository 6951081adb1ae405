/-
  The machine over the program of this seat.
-/
import Derived.Test.YtepghohkfnmhmaaRows
import Derived.Test.YtepghohkfnmhmaaVmLaw
import Derived.Test.YtepghohkfnmhmaaVmLoop
namespace Go.Proofs.Ytepghohkfnmhmaa
open Go.Vm

def ks : List (TypeId × Kind) := [(22, .byte), (35, .term), (36, .policy), (37, .host), (38, .letter), (39, .call), (40, .talk), (41, .int), (46, .term), (47, .policy), (48, .host), (49, .letter), (50, .call), (51, .talk), (98, .str)]

def lhs (f r : Nat) : LoopH := match f, r with
  | 19, 2 => ⟨⟨[1, 2, 4, 5], [.own 2], []⟩, ⟨[4], [], []⟩, [(4, .int)], [], [0]⟩
  | 30, 2 => ⟨⟨[0, 2, 5, 6], [], []⟩, ⟨[0, 2], [], []⟩, [(0, .str), (2, .bool)], [], [0]⟩
  | 33, 2 => ⟨⟨[0, 2, 3], [], []⟩, ⟨[0, 2], [], []⟩, [(0, .str), (2, .bool)], [], [0]⟩
  | 34, 5 => ⟨⟨[0, 1, 4, 5], [], []⟩, ⟨[1, 4], [], []⟩, [(1, .int), (4, .int)], [], [0]⟩
  | 35, 5 => ⟨⟨[0, 1, 4, 5], [], []⟩, ⟨[1, 4], [], []⟩, [(1, .int), (4, .int)], [], [0]⟩
  | 36, 5 => ⟨⟨[0, 1, 4, 5], [], []⟩, ⟨[1, 4], [], []⟩, [(1, .int), (4, .int)], [], [0]⟩
  | 37, 5 => ⟨⟨[0, 1, 4, 5], [], []⟩, ⟨[1, 4], [], []⟩, [(1, .int), (4, .int)], [], [0]⟩
  | 38, 5 => ⟨⟨[0, 1, 4, 5], [], []⟩, ⟨[1, 4], [], []⟩, [(1, .int), (4, .int)], [], [0]⟩
  | 39, 5 => ⟨⟨[0, 1, 4, 5], [], []⟩, ⟨[1, 4], [], []⟩, [(1, .int), (4, .int)], [], [0]⟩
  | 41, 3 => ⟨⟨[0, 3, 4], [], [(.slot 3, .own 3)]⟩, ⟨[3], [], [(.slot 3, .own 3)]⟩, [(3, .row (.own 3) .term)], [(.own 3, .row true .term)], [0]⟩
  | 42, 3 => ⟨⟨[0, 3, 4], [], [(.slot 3, .own 3)]⟩, ⟨[3], [], [(.slot 3, .own 3)]⟩, [(3, .row (.own 3) .policy)], [(.own 3, .row true .policy)], [0]⟩
  | 43, 3 => ⟨⟨[0, 3, 4], [], [(.slot 3, .own 3)]⟩, ⟨[3], [], [(.slot 3, .own 3)]⟩, [(3, .row (.own 3) .host)], [(.own 3, .row true .host)], [0]⟩
  | 44, 3 => ⟨⟨[0, 3, 4], [], [(.slot 3, .own 3)]⟩, ⟨[3], [], [(.slot 3, .own 3)]⟩, [(3, .row (.own 3) .letter)], [(.own 3, .row true .letter)], [0]⟩
  | 45, 3 => ⟨⟨[0, 3, 4], [], [(.slot 3, .own 3)]⟩, ⟨[3], [], [(.slot 3, .own 3)]⟩, [(3, .row (.own 3) .call)], [(.own 3, .row true .call)], [0]⟩
  | 46, 3 => ⟨⟨[0, 3, 4], [], [(.slot 3, .own 3)]⟩, ⟨[3], [], [(.slot 3, .own 3)]⟩, [(3, .row (.own 3) .talk)], [(.own 3, .row true .talk)], [0]⟩
  | 47, 3 => ⟨⟨[0, 3, 4], [], [(.slot 3, .own 3)]⟩, ⟨[3], [], [(.slot 3, .own 3)]⟩, [(3, .row (.own 3) .int)], [(.own 3, .row true .int)], [0]⟩
  | 50, 4 => ⟨⟨[0, 1, 4, 5], [], []⟩, ⟨[4], [], []⟩, [(4, .bool)], [], [0]⟩
  | 51, 4 => ⟨⟨[0, 1, 4, 5], [], []⟩, ⟨[4], [], []⟩, [(4, .bool)], [], [0]⟩
  | 52, 4 => ⟨⟨[0, 1, 4, 5], [], []⟩, ⟨[4], [], []⟩, [(4, .bool)], [], [0]⟩
  | 53, 4 => ⟨⟨[0, 1, 4, 5], [], []⟩, ⟨[4], [], []⟩, [(4, .bool)], [], [0]⟩
  | 54, 4 => ⟨⟨[0, 1, 4, 5], [], []⟩, ⟨[4], [], []⟩, [(4, .bool)], [], [0]⟩
  | 55, 4 => ⟨⟨[0, 1, 4, 5], [], []⟩, ⟨[4], [], []⟩, [(4, .bool)], [], [0]⟩
  | 56, 4 => ⟨⟨[0, 1, 4, 5], [], []⟩, ⟨[4], [], []⟩, [(4, .bool)], [], [0]⟩
  | 79, 5 => ⟨⟨[0, 1, 4, 5], [], []⟩, ⟨[1, 4], [], []⟩, [(1, .int), (4, .int)], [], [0]⟩
  | 82, 3 => ⟨⟨[0, 3, 4], [], [(.slot 3, .own 3)]⟩, ⟨[3], [], [(.slot 3, .own 3)]⟩, [(3, .row (.own 3) .str)], [(.own 3, .row true .str)], [0]⟩
  | 85, 4 => ⟨⟨[0, 1, 4, 5], [], []⟩, ⟨[4], [], []⟩, [(4, .bool)], [], [0]⟩
  | 48, 2 => ⟨⟨[0, 1, 4, 7, 8], [.arg 0], []⟩, ⟨[4], [.arg 0], []⟩, [(4, .int)], [(.arg 0, .box [.str])], [0]⟩
  | _, _ => ⟨⟨[], [], []⟩, ⟨[], [], []⟩, [], [], []⟩

def hms (_ b : Nat) : Vm.Mode := match b with
  | 5 => .pure
  | 6 => .pure
  | 7 => .pure
  | 8 => .pure
  | 9 => .pure
  | 10 => .pure
  | 11 => .pure
  | 12 => .pure
  | 13 => .pure
  | 14 => .pure
  | 15 => .pure
  | 16 => .pure
  | 17 => .pure
  | 18 => .pure
  | 19 => .pure
  | 20 => .pure
  | 21 => .pure
  | 22 => .pure
  | 30 => .pure
  | 33 => .pure
  | 34 => .pure
  | 35 => .pure
  | 36 => .pure
  | 37 => .pure
  | 38 => .pure
  | 39 => .pure
  | 40 => .pure
  | 41 => .pure
  | 42 => .pure
  | 43 => .pure
  | 44 => .pure
  | 45 => .pure
  | 46 => .pure
  | 47 => .pure
  | 50 => .pure
  | 51 => .pure
  | 52 => .pure
  | 53 => .pure
  | 54 => .pure
  | 55 => .pure
  | 56 => .pure
  | 59 => .pure
  | 60 => .pure
  | 61 => .pure
  | 62 => .pure
  | 63 => .pure
  | 64 => .pure
  | 65 => .pure
  | 66 => .pure
  | 67 => .pure
  | 68 => .pure
  | 69 => .pure
  | 70 => .pure
  | 71 => .pure
  | 72 => .pure
  | 73 => .pure
  | 74 => .pure
  | 75 => .pure
  | 76 => .pure
  | 79 => .pure
  | 80 => .pure
  | 81 => .pure
  | 82 => .pure
  | 83 => .pure
  | 84 => .pure
  | 85 => .pure
  | 86 => .pure
  | 87 => .pure
  | 24 => .heap
  | 25 => .heap
  | 29 => .heap
  | 57 => .heap
  | 58 => .heap
  | 77 => .heap
  | 78 => .heap
  | 88 => .heap
  | _ => .inline

def shs (t : Nat) : Sh := match t with
  | 0 => .tup []
  | 3 => .int
  | 4 => .bool
  | 5 => .u8
  | 6 => .u8
  | 9 => .str
  | 10 => .str
  | 11 => .str
  | 22 => .sl .byte
  | 25 => .el .letter
  | 26 => .tup [.el .letter, .int]
  | 28 => .tup [.el .letter, .bool]
  | 35 => .sl .term
  | 36 => .sl .policy
  | 37 => .sl .host
  | 38 => .sl .letter
  | 39 => .sl .call
  | 40 => .sl .talk
  | 41 => .sl .int
  | 43 => .world
  | 46 => .sl .term
  | 47 => .sl .policy
  | 48 => .sl .host
  | 49 => .sl .letter
  | 50 => .sl .call
  | 51 => .sl .talk
  | 53 => .world
  | 74 => .el .host
  | 96 => .el .term
  | 98 => .sl .str
  | 100 => .el .policy
  | 102 => .el .host
  | 104 => .el .letter
  | 107 => .client
  | 109 => .el .call
  | 112 => .server
  | 114 => .el .talk
  | 116 => .el .term
  | 118 => .el .policy
  | 123 => .client
  | 125 => .el .call
  | 128 => .server
  | 130 => .el .talk
  | 159 => .u8
  | 160 => .u8
  | _ => .raw

def dls (f r : Nat) : List Vm.Id := match f, r with
  | _, _ => []

noncomputable def cfg : Cfg where
  tb := tbOf Try.prog ks
  hm := hms
  sh := shs
  eqT := eqOf Try.prog [25, 74]
  lh := lhs
  dl := dls
  ext := fun _ => none

noncomputable abbrev RN := rn Try.prog cfg

set_option maxRecDepth 100000 in
theorem progOK : ProgOK Gl.none Try.prog cfg where
  wide := by kernel_rfl
  tab := tabOK_of (ks := ks) (es := [25, 74]) rfl rfl
  nm := names_of (by kernel_rfl)
  ext := fun f g args objs r h => by cases h

theorem ksOk' : ksOk Try.prog ks ks = true := by kernel_rfl

end Go.Proofs.Ytepghohkfnmhmaa
