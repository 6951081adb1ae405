/-
  The machine over the program of this seat.
-/
import Derived.Test.YtepghohkfnmhmaaDoorRows
import Derived.Test.YtepghohkfnmhmaaDoorVm5r
import Derived.Test.YtepghohkfnmhmaaDoorVm6
import Derived.Test.YtepghohkfnmhmaaDoorWtShelf
namespace Go.Proofs.YtepghohkfnmhmaaDoor
open Go.Vm

noncomputable def gPow : Nat := (Tryd.prog.globalNamed "internal/strconv.uint64pow10").getD 0

theorem gPow_is : Tryd.prog.globalNamed "internal/strconv.uint64pow10" = some gPow := by kernel_rfl

/-- What is told of the library's variables. -/
noncomputable def GG : Gl := (Gl.tab .u64 Lib.pow10Tab gPow)

def exts (f : Nat) : Option (List V → List Vm.Obj → Option (V × List Vm.Obj × List Vm.Obj)) := match f with
  | 71 => some extItoa
  | 107 => some extJoin
  | _ => none

def ks : List (TypeId × Kind) := [(22, .term), (29, .term), (41, .int), (57, .policy), (58, .host), (59, .letter), (60, .call), (61, .talk), (66, .policy), (67, .host), (68, .letter), (69, .call), (70, .talk), (87, .str), (143, .byte)]

def lhs (f r : Nat) : LoopH := match f, r with
  | 26, 3 => ⟨⟨[1, 3, 4], [.own 1], []⟩, ⟨[1, 3], [.own 1], []⟩, [(1, .bx (.own 1) 0), (3, .str)], [(.own 1, .recd (.world))], [0]⟩
  | 26, 7 => ⟨⟨[1, 3, 5], [.own 1], []⟩, ⟨[3], [], []⟩, [(3, .str)], [], [2]⟩
  | 28, 3 => ⟨⟨[1, 3, 38, 39, 40], [.own 1], []⟩, ⟨[1, 3], [.own 1], []⟩, [(1, .bx (.own 1) 0), (3, .str)], [(.own 1, .recd (.world))], [0]⟩
  | 28, 8 => ⟨⟨[3, 51, 52, 53], [], []⟩, ⟨[3], [], []⟩, [(3, .str)], [], [2]⟩
  | 45, 3 => ⟨⟨[0, 3, 4], [], [(.slot 3, .own 3)]⟩, ⟨[3], [], [(.slot 3, .own 3)]⟩, [(3, .row (.own 3) .int)], [(.own 3, .row true .int)], [0]⟩
  | 48, 4 => ⟨⟨[0, 1, 4, 5], [], []⟩, ⟨[4], [], []⟩, [(4, .bool)], [], [0]⟩
  | 56, 5 => ⟨⟨[0, 1, 4, 5], [], []⟩, ⟨[1, 4], [], []⟩, [(1, .int), (4, .int)], [], [0]⟩
  | 57, 5 => ⟨⟨[0, 1, 4, 5], [], []⟩, ⟨[1, 4], [], []⟩, [(1, .int), (4, .int)], [], [0]⟩
  | 58, 5 => ⟨⟨[0, 1, 4, 5], [], []⟩, ⟨[1, 4], [], []⟩, [(1, .int), (4, .int)], [], [0]⟩
  | 59, 5 => ⟨⟨[0, 1, 4, 5], [], []⟩, ⟨[1, 4], [], []⟩, [(1, .int), (4, .int)], [], [0]⟩
  | 60, 5 => ⟨⟨[0, 1, 4, 5], [], []⟩, ⟨[1, 4], [], []⟩, [(1, .int), (4, .int)], [], [0]⟩
  | 61, 5 => ⟨⟨[0, 1, 4, 5], [], []⟩, ⟨[1, 4], [], []⟩, [(1, .int), (4, .int)], [], [0]⟩
  | 62, 5 => ⟨⟨[0, 3, 4], [], []⟩, ⟨[3, 4], [], []⟩, [(3, .bool), (4, .str)], [], [0]⟩
  | 65, 3 => ⟨⟨[0, 3, 4], [], [(.slot 3, .own 3)]⟩, ⟨[3], [], [(.slot 3, .own 3)]⟩, [(3, .row (.own 3) .term)], [(.own 3, .row true .term)], [0]⟩
  | 66, 3 => ⟨⟨[0, 3, 4], [], [(.slot 3, .own 3)]⟩, ⟨[3], [], [(.slot 3, .own 3)]⟩, [(3, .row (.own 3) .policy)], [(.own 3, .row true .policy)], [0]⟩
  | 67, 3 => ⟨⟨[0, 3, 4], [], [(.slot 3, .own 3)]⟩, ⟨[3], [], [(.slot 3, .own 3)]⟩, [(3, .row (.own 3) .host)], [(.own 3, .row true .host)], [0]⟩
  | 68, 3 => ⟨⟨[0, 3, 4], [], [(.slot 3, .own 3)]⟩, ⟨[3], [], [(.slot 3, .own 3)]⟩, [(3, .row (.own 3) .letter)], [(.own 3, .row true .letter)], [0]⟩
  | 69, 3 => ⟨⟨[0, 3, 4], [], [(.slot 3, .own 3)]⟩, ⟨[3], [], [(.slot 3, .own 3)]⟩, [(3, .row (.own 3) .call)], [(.own 3, .row true .call)], [0]⟩
  | 70, 3 => ⟨⟨[0, 3, 4], [], [(.slot 3, .own 3)]⟩, ⟨[3], [], [(.slot 3, .own 3)]⟩, [(3, .row (.own 3) .talk)], [(.own 3, .row true .talk)], [0]⟩
  | 74, 4 => ⟨⟨[0, 1, 4, 5], [], []⟩, ⟨[4], [], []⟩, [(4, .bool)], [], [0]⟩
  | 75, 4 => ⟨⟨[0, 1, 4, 5], [], []⟩, ⟨[4], [], []⟩, [(4, .bool)], [], [0]⟩
  | 76, 4 => ⟨⟨[0, 1, 4, 5], [], []⟩, ⟨[4], [], []⟩, [(4, .bool)], [], [0]⟩
  | 77, 4 => ⟨⟨[0, 1, 4, 5], [], []⟩, ⟨[4], [], []⟩, [(4, .bool)], [], [0]⟩
  | 78, 4 => ⟨⟨[0, 1, 4, 5], [], []⟩, ⟨[4], [], []⟩, [(4, .bool)], [], [0]⟩
  | 79, 4 => ⟨⟨[0, 1, 4, 5], [], []⟩, ⟨[4], [], []⟩, [(4, .bool)], [], [0]⟩
  | 137, 5 => ⟨⟨[0, 1, 4, 5], [], []⟩, ⟨[1, 4], [], []⟩, [(1, .int), (4, .int)], [], [0]⟩
  | 138, 3 => ⟨⟨[0, 3, 4], [], [(.slot 3, .own 3)]⟩, ⟨[3], [], [(.slot 3, .own 3)]⟩, [(3, .row (.own 3) .str)], [(.own 3, .row true .str)], [0]⟩
  | 143, 4 => ⟨⟨[0, 1, 4, 5], [], []⟩, ⟨[4], [], []⟩, [(4, .bool)], [], [0]⟩
  | _, _ => ⟨⟨[], [], []⟩, ⟨[], [], []⟩, [], [], []⟩

def hms (_ b : Nat) : Vm.Mode := match b with
  | 8 => .pure
  | 10 => .pure
  | 12 => .pure
  | 17 => .pure
  | 19 => .pure
  | 21 => .pure
  | 25 => .pure
  | 26 => .pure
  | 27 => .pure
  | 28 => .pure
  | 29 => .pure
  | 30 => .pure
  | 35 => .pure
  | 36 => .pure
  | 41 => .pure
  | 44 => .pure
  | 45 => .pure
  | 48 => .pure
  | 56 => .pure
  | 57 => .pure
  | 58 => .pure
  | 59 => .pure
  | 60 => .pure
  | 61 => .pure
  | 62 => .pure
  | 63 => .pure
  | 64 => .pure
  | 65 => .pure
  | 66 => .pure
  | 67 => .pure
  | 68 => .pure
  | 69 => .pure
  | 70 => .pure
  | 71 => .pure
  | 72 => .pure
  | 73 => .pure
  | 74 => .pure
  | 75 => .pure
  | 76 => .pure
  | 77 => .pure
  | 78 => .pure
  | 79 => .pure
  | 95 => .pure
  | 96 => .pure
  | 97 => .pure
  | 98 => .pure
  | 99 => .pure
  | 100 => .pure
  | 101 => .pure
  | 102 => .pure
  | 103 => .pure
  | 104 => .pure
  | 105 => .pure
  | 107 => .pure
  | 108 => .pure
  | 109 => .pure
  | 110 => .pure
  | 111 => .pure
  | 112 => .pure
  | 113 => .pure
  | 137 => .pure
  | 138 => .pure
  | 143 => .pure
  | _ => .inline

def shs (t : Nat) : Sh := match t with
  | 0 => .tup []
  | 3 => .int
  | 4 => .bool
  | 5 => .u8
  | 6 => .u8
  | 9 => .str
  | 10 => .str
  | 11 => .str
  | 22 => .sl .term
  | 24 => .el .term
  | 26 => .client
  | 29 => .sl .term
  | 31 => .el .term
  | 33 => .client
  | 37 => .tup [.client, .bool]
  | 41 => .sl .int
  | 43 => .server
  | 47 => .server
  | 52 => .el .note
  | 53 => .tup [.el .note, .bool]
  | 57 => .sl .policy
  | 58 => .sl .host
  | 59 => .sl .letter
  | 60 => .sl .call
  | 61 => .sl .talk
  | 63 => .world
  | 66 => .sl .policy
  | 67 => .sl .host
  | 68 => .sl .letter
  | 69 => .sl .call
  | 70 => .sl .talk
  | 72 => .world
  | 87 => .sl .str
  | 103 => .el .letter
  | 106 => .el .call
  | 126 => .err
  | 127 => .tup [.int, .err]
  | 131 => .el .policy
  | 134 => .el .host
  | 136 => .el .letter
  | 139 => .el .call
  | 142 => .el .talk
  | 143 => .sl .byte
  | 145 => .el .policy
  | 147 => .el .host
  | 152 => .el .talk
  | 179 => .tup [.raw, .int]
  | 182 => .int
  | 183 => .tup [.raw, .err]
  | 192 => .tup [.sl .byte, .str]
  | 196 => .tup [.raw, .err]
  | 214 => .tup [.raw, .raw]
  | 229 => .u8
  | 230 => .u8
  | _ => .raw

def dls (f r : Nat) : List Vm.Id := match f, r with
  | _, _ => []

noncomputable def cfg : Cfg where
  tb := tbOf Tryd.prog ks
  hm := hms
  sh := shs
  eqT := eqOf Tryd.prog [103, 52, 147]
  lh := lhs
  dl := dls
  ext := exts

noncomputable abbrev RN := rn Tryd.prog cfg

set_option maxRecDepth 100000 in
theorem progOK : ProgOK GG Tryd.prog cfg where
  wide := by kernel_rfl
  tab := tabOK_of (ks := ks) (es := [103, 52, 147]) rfl rfl
  nm := names_of (by kernel_rfl)
  ext := fun f g args objs r h hr => by
    have h : exts f = some g := h
    unfold exts at h
    split at h
    · cases h
      refine extItoa_ok (G := GG) ⟨Tryd.f71, _, Tryd.func71, rfl, by kernel_rfl⟩ (fun n w h0 h1 hG => (Tryd.strconv_Itoa n h0 h1 w (Gl.tab_is gPow_is hG)).mono ?_) args objs r hr
      rintro e w' ⟨rfl, k, os, rfl⟩
      exact ⟨rfl, below_grow w k os⟩
    · cases h
      refine extJoin_ok (G := GG) ⟨Tryd.f107, _, Tryd.func107, rfl, by kernel_rfl⟩ (fun a c sep w => (Tryd.strings_Join_none a c sep w).mono ?_) (fun bk o c xs sep w q1 q2 q3 q4 q5 => Tryd.strings_Join bk o c xs sep w q1 q2 q3 q4 q5) args objs r hr
      rintro e w' ⟨rfl, rfl⟩
      exact ⟨rfl, Go.RowKit.Below.refl _ _⟩
    · cases h

theorem ksOk' : ksOk Tryd.prog ks ks = true := by kernel_rfl

end Go.Proofs.YtepghohkfnmhmaaDoor
