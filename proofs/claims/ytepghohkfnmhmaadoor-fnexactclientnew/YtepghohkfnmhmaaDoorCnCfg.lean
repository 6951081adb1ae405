/-
  The machine over the program of this seat.
-/
import Derived.Test.YtepghohkfnmhmaaDoorRows
import Derived.Test.YtepghohkfnmhmaaDoorVm5r
import Derived.Test.YtepghohkfnmhmaaDoorVm6
import Derived.Test.YtepghohkfnmhmaaDoorCnShelf
namespace Go.Proofs.YtepghohkfnmhmaaDoor
open Go.Vm

/-- What is told of the library's variables. -/
def GG : Gl := (Gl.num .i64 0)

def exts (f : Nat) : Option (List V → List Vm.Obj → Option (V × List Vm.Obj × List Vm.Obj)) := match f with
  | 52 => some extSplit
  | _ => none

def ks : List (TypeId × Kind) := [(22, .term), (29, .term), (41, .int), (57, .policy), (58, .host), (59, .letter), (60, .call), (61, .talk), (66, .policy), (67, .host), (68, .letter), (69, .call), (70, .talk), (87, .str), (143, .byte)]

def lhs (f r : Nat) : LoopH := match f, r with
  | 33, 4 => ⟨⟨[2, 3, 4, 5], [.own 2, .own 3], []⟩, ⟨[4], [], []⟩, [(4, .bool)], [], [0]⟩
  | 74, 4 => ⟨⟨[0, 1, 4, 5], [], []⟩, ⟨[4], [], []⟩, [(4, .bool)], [], [0]⟩
  | 80, 3 => ⟨⟨[0, 1, 4, 5, 6], [], []⟩, ⟨[0, 1, 4, 5], [], []⟩, [(0, .str), (1, .int), (4, .bool), (5, .sl .str)], [], [0]⟩
  | 81, 3 => ⟨⟨[1, 3, 4], [.own 1], []⟩, ⟨[3], [], []⟩, [(3, .int)], [], [0]⟩
  | 82, 4 => ⟨⟨[1, 2, 3], [.own 1], []⟩, ⟨[1, 2], [.own 1], []⟩, [(1, .bx (.own 1) 0), (2, .bool)], [(.own 1, .recd (.el .term))], [0]⟩
  | 84, 3 => ⟨⟨[3, 7, 8, 9], [], []⟩, ⟨[3], [], []⟩, [(3, .int)], [], [0]⟩
  | 87, 2 => ⟨⟨[0, 1, 5], [], []⟩, ⟨[1], [], []⟩, [(1, .int)], [], [0]⟩
  | 88, 2 => ⟨⟨[0, 1, 4, 5], [], []⟩, ⟨[1, 4], [], []⟩, [(1, .int), (4, .int)], [], [0]⟩
  | 114, 4 => ⟨⟨[0, 3, 4, 5], [], [(.slot 3, .own 3)]⟩, ⟨[3], [], [(.slot 3, .own 3)]⟩, [(3, .row (.own 3) .str)], [(.own 3, .row true .str)], [0]⟩
  | 115, 2 => ⟨⟨[0, 2, 3], [], []⟩, ⟨[0, 2], [], []⟩, [(0, .str), (2, .bool)], [], [0]⟩
  | 117, 10 => ⟨⟨[2, 3, 4, 5], [.own 2, .own 3], []⟩, ⟨[4], [], []⟩, [(4, .bool)], [], [1]⟩
  | 121, 2 => ⟨⟨[0, 2, 6, 7], [], []⟩, ⟨[0, 2], [], []⟩, [(0, .str), (2, .bool)], [], [0]⟩
  | 125, 10 => ⟨⟨[3, 4, 56, 57, 58], [.own 3], []⟩, ⟨[4], [], []⟩, [(4, .bool)], [], [1]⟩
  | 126, 4 => ⟨⟨[1, 2, 6, 15, 16, 17], [], []⟩, ⟨[6], [], []⟩, [(6, .bool)], [], [0]⟩
  | 127, 4 => ⟨⟨[0, 3], [], []⟩, ⟨[3], [], []⟩, [(3, .str)], [], [0]⟩
  | 144, 2 => ⟨⟨[0, 1, 4, 7, 8], [], []⟩, ⟨[4], [], []⟩, [(4, .int)], [], [0]⟩
  | 145, 2 => ⟨⟨[0, 1, 4, 7, 8], [], []⟩, ⟨[4], [], []⟩, [(4, .int)], [], [0]⟩
  | _, _ => ⟨⟨[], [], []⟩, ⟨[], [], []⟩, [], [], []⟩

def hms (_ b : Nat) : Vm.Mode := match b with
  | 9 => .pure
  | 11 => .pure
  | 12 => .pure
  | 13 => .pure
  | 14 => .pure
  | 15 => .pure
  | 16 => .pure
  | 31 => .pure
  | 32 => .pure
  | 33 => .pure
  | 34 => .pure
  | 36 => .pure
  | 37 => .pure
  | 38 => .pure
  | 39 => .pure
  | 40 => .pure
  | 41 => .pure
  | 42 => .pure
  | 43 => .pure
  | 52 => .pure
  | 74 => .pure
  | 80 => .pure
  | 81 => .pure
  | 82 => .pure
  | 83 => .pure
  | 84 => .pure
  | 85 => .pure
  | 86 => .pure
  | 87 => .pure
  | 88 => .pure
  | 114 => .pure
  | 115 => .pure
  | 116 => .pure
  | 117 => .pure
  | 118 => .pure
  | 119 => .pure
  | 121 => .pure
  | 122 => .pure
  | 123 => .pure
  | 125 => .pure
  | 126 => .pure
  | 127 => .pure
  | 144 => .pure
  | 145 => .pure
  | _ => .inline

def shs (t : Nat) : Sh := match t with
  | 0 => .tup []
  | 3 => .int
  | 4 => .bool
  | 5 => .u8
  | 6 => .u8
  | 9 => .str
  | 10 => .str
  | 11 => .str
  | 22 => .sl .term
  | 24 => .el .term
  | 26 => .client
  | 29 => .sl .term
  | 31 => .el .term
  | 33 => .client
  | 37 => .tup [.client, .bool]
  | 41 => .sl .int
  | 43 => .server
  | 47 => .server
  | 52 => .el .note
  | 53 => .tup [.el .note, .bool]
  | 57 => .sl .policy
  | 58 => .sl .host
  | 59 => .sl .letter
  | 60 => .sl .call
  | 61 => .sl .talk
  | 63 => .world
  | 66 => .sl .policy
  | 67 => .sl .host
  | 68 => .sl .letter
  | 69 => .sl .call
  | 70 => .sl .talk
  | 72 => .world
  | 87 => .sl .str
  | 103 => .el .letter
  | 106 => .el .call
  | 127 => .tup [.int, .raw]
  | 131 => .el .policy
  | 134 => .el .host
  | 136 => .el .letter
  | 139 => .el .call
  | 142 => .el .talk
  | 143 => .sl .byte
  | 145 => .el .policy
  | 147 => .el .host
  | 152 => .el .talk
  | 179 => .tup [.raw, .int]
  | 182 => .int
  | 183 => .tup [.raw, .raw]
  | 192 => .tup [.sl .byte, .str]
  | 196 => .tup [.raw, .raw]
  | 214 => .tup [.raw, .raw]
  | 229 => .u8
  | 230 => .u8
  | _ => .raw

def dls (f r : Nat) : List Vm.Id := match f, r with
  | _, _ => []

noncomputable def cfg : Cfg where
  tb := tbOf Tryd.prog ks
  hm := hms
  sh := shs
  eqT := eqOf Tryd.prog [103, 52, 147]
  lh := lhs
  dl := dls
  ext := exts

noncomputable abbrev RN := rn Tryd.prog cfg

set_option maxRecDepth 100000 in
theorem progOK : ProgOK GG Tryd.prog cfg where
  wide := by kernel_rfl
  tab := tabOK_of (ks := ks) (es := [103, 52, 147]) rfl rfl
  nm := names_of (by kernel_rfl)
  ext := fun f g args objs r h hr => by
    have h : exts f = some g := h
    unfold exts at h
    split at h
    · cases h
      exact extSplit_ok (G := GG) (T := 9) ⟨Tryd.f52, _, Tryd.func52, rfl, by kernel_rfl⟩ (fun s sep w h0 h1 hG => by
        obtain ⟨m, hm⟩ := hG
        exact Tryd.strings_Split s sep m w h0 hm h1) args objs r hr
    · cases h

theorem ksOk' : ksOk Tryd.prog ks ks = true := by kernel_rfl

end Go.Proofs.YtepghohkfnmhmaaDoor
