/-
  The machine over the program of this seat.
-/
import Derived.Test.YtoebfbhcbpiheaaDoorRows
import Derived.Test.YtoebfbhcbpiheaaDoorVm5r
import Derived.Test.YtoebfbhcbpiheaaDoorVm6
import Derived.Test.YtoebfbhcbpiheaaDoorNsShelf
namespace Go.Proofs.YtoebfbhcbpiheaaDoor
open Go.Vm

noncomputable def gPow : Nat := (Tryd.prog.globalNamed "internal/strconv.uint64pow10").getD 0

theorem gPow_is : Tryd.prog.globalNamed "internal/strconv.uint64pow10" = some gPow := by kernel_rfl

/-- What is told of the library's variables. -/
noncomputable def GG : Gl := (Gl.and (Gl.num .i64 0) (Gl.and (Gl.tab .u64 Lib.pow10Tab gPow) (Gl.and (Gl.err 1) (Gl.err 2))))

def exts (f : Nat) : Option (List V → List Vm.Obj → Option (V × List Vm.Obj × List Vm.Obj)) := match f with
  | 61 => some extSplit
  | 69 => some extItoa
  | 36 => some extIndexByte
  | 78 => some extAtoi
  | _ => none

def ks : List (TypeId × Kind) := [(22, .term), (26, .term), (35, .note), (68, .str), (75, .byte)]

def lhs (f r : Nat) : LoopH := match f, r with
  | 12, 4 => ⟨⟨[0, 4, 5, 6], [], [(.slot 4, .own 4)]⟩, ⟨[4, 5], [], [(.slot 4, .own 4)]⟩, [(4, .row (.own 4) .note), (5, .int)], [(.own 4, .row true .note)], [0]⟩
  | 13, 3 => ⟨⟨[0, 2, 3, 4, 5], [], [(.slot 2, .own 2), (.slot 4, .own 4)]⟩, ⟨[2, 3], [], [(.slot 2, .own 2)]⟩, [(2, .row (.own 2) .note), (3, .int)], [(.own 2, .row true .note)], []⟩
  | 14, 4 => ⟨⟨[0, 1, 4, 5], [], []⟩, ⟨[4], [], []⟩, [(4, .bool)], [], [0]⟩
  | 15, 2 => ⟨⟨[0, 1, 5], [.arg 0], []⟩, ⟨[1], [.arg 0], []⟩, [(1, .int)], [(.arg 0, .row true .note)], [0]⟩
  | 16, 2 => ⟨⟨[0, 1, 4, 5], [], []⟩, ⟨[1, 4], [], []⟩, [(1, .int), (4, .int)], [], [0]⟩
  | 35, 7 => ⟨⟨[0, 2, 4, 5, 6, 7], [.own 2, .own 6], []⟩, ⟨[0, 2, 4, 6], [.own 2, .own 6], []⟩, [(0, .str), (2, .bx (.own 2) 0), (4, .sl .str), (6, .bx (.own 6) 0)], [(.own 2, .recd (.el .note)), (.own 6, .recd (.el .note))], [0]⟩
  | 39, 4 => ⟨⟨[0, 3], [], []⟩, ⟨[3], [], []⟩, [(3, .str)], [], [0]⟩
  | 57, 4 => ⟨⟨[0, 3, 4, 5], [], [(.slot 3, .own 3)]⟩, ⟨[3], [], [(.slot 3, .own 3)]⟩, [(3, .row (.own 3) .str)], [(.own 3, .row true .str)], [0]⟩
  | 58, 3 => ⟨⟨[0, 3, 4], [], []⟩, ⟨[3], [], []⟩, [(3, .int)], [], [0]⟩
  | 68, 5 => ⟨⟨[0, 3, 4], [], []⟩, ⟨[3, 4], [], []⟩, [(3, .bool), (4, .str)], [], [0]⟩
  | 84, 2 => ⟨⟨[0, 2, 3], [], []⟩, ⟨[0, 2], [], []⟩, [(0, .str), (2, .bool)], [], [0]⟩
  | 91, 2 => ⟨⟨[0, 2, 5, 6], [], []⟩, ⟨[0, 2], [], []⟩, [(0, .str), (2, .bool)], [], [0]⟩
  | _, _ => ⟨⟨[], [], []⟩, ⟨[], [], []⟩, [], [], []⟩

def hms (_ b : Nat) : Vm.Mode := match b with
  | 12 => .pure
  | 14 => .pure
  | 16 => .pure
  | 35 => .pure
  | 36 => .pure
  | 37 => .pure
  | 38 => .pure
  | 39 => .pure
  | 57 => .pure
  | 58 => .pure
  | 59 => .pure
  | 61 => .pure
  | 62 => .pure
  | 63 => .pure
  | 64 => .pure
  | 68 => .pure
  | 69 => .pure
  | 73 => .pure
  | 74 => .pure
  | 77 => .pure
  | 78 => .pure
  | 79 => .pure
  | 81 => .pure
  | 84 => .pure
  | 88 => .pure
  | 91 => .pure
  | 92 => .pure
  | 93 => .pure
  | _ => .inline

def shs (t : Nat) : Sh := match t with
  | 0 => .tup []
  | 3 => .int
  | 4 => .bool
  | 5 => .u8
  | 6 => .u8
  | 9 => .str
  | 10 => .str
  | 11 => .str
  | 22 => .sl .term
  | 24 => .el .term
  | 26 => .sl .term
  | 28 => .el .term
  | 29 => .tup [.el .term, .el .term, .el .term, .el .term, .bool]
  | 35 => .sl .note
  | 36 => .tup [.sl .note, .int]
  | 42 => .tup [.el .term, .bool]
  | 49 => .tup [.el .term, .el .term, .bool]
  | 56 => .el .note
  | 57 => .tup [.el .note, .bool]
  | 68 => .sl .str
  | 75 => .sl .byte
  | 82 => .err
  | 83 => .tup [.int, .err]
  | 92 => .tup [.raw, .int]
  | 94 => .int
  | 95 => .tup [.raw, .err]
  | 104 => .tup [.sl .byte, .str]
  | 107 => .tup [.raw, .err]
  | 122 => .tup [.raw, .raw]
  | 139 => .u8
  | 140 => .u8
  | _ => .raw

def dls (f r : Nat) : List Vm.Id := match f, r with
  | 79, 8 => [.own 3]
  | _, _ => []

noncomputable def cfg : Cfg where
  tb := tbOf Tryd.prog ks
  hm := hms
  sh := shs
  eqT := eqOf Tryd.prog [56]
  lh := lhs
  dl := dls
  ext := exts

noncomputable abbrev RN := rn Tryd.prog cfg

set_option maxRecDepth 100000 in
theorem progOK : ProgOK GG Tryd.prog cfg where
  wide := by kernel_rfl
  tab := tabOK_of (ks := ks) (es := [56]) rfl rfl
  nm := names_of (by kernel_rfl)
  ext := fun f g args objs r h hr => by
    have h : exts f = some g := h
    unfold exts at h
    split at h
    · cases h
      exact extSplit_ok (G := GG) (T := 9) ⟨Tryd.f61, _, Tryd.func61, rfl, by kernel_rfl⟩ (fun s sep w h0 h1 hG => by
        obtain ⟨m, hm⟩ := hG.1
        exact Tryd.strings_Split s sep m w h0 hm h1) args objs r hr
    · cases h
      refine extItoa_ok (G := GG) ⟨Tryd.f69, _, Tryd.func69, rfl, by kernel_rfl⟩ (fun n w h0 h1 hG => (Tryd.strconv_Itoa n h0 h1 w (Gl.tab_is gPow_is hG.2.1)).mono ?_) args objs r hr
      rintro e w' ⟨rfl, k, os, rfl⟩
      exact ⟨rfl, below_grow w k os⟩
    · cases h
      refine extIndexByte_ok (G := GG) ⟨Tryd.f36, _, Tryd.func36, rfl, by kernel_rfl⟩ (fun s c w => Tryd.strings_IndexByte s c w) args objs r hr
    · cases h
      exact extAtoi_ok (G := GG) ⟨Tryd.f78, _, Tryd.func78, rfl, by kernel_rfl⟩ (fun s v w hs h => Tryd.strconv_Atoi_ok s hs v h w) (fun s w hs h hG => by
        obtain ⟨ev, hv, hev⟩ := hG.2.2.1
        refine (Tryd.strconv_Atoi_syntax s hs h ev w hv hev).mono ?_
        rintro e w' ⟨N, rfl, _, _, hb⟩
        exact ⟨⟨_, _, rfl⟩, hb⟩) (fun s w hs h hG => by
        obtain ⟨ev, hv, hev⟩ := hG.2.2.2
        refine (Tryd.strconv_Atoi_range s hs h ev w hv hev).mono ?_
        rintro e w' ⟨N, rfl, _, _, hb⟩
        exact ⟨⟨_, _, rfl⟩, hb⟩) args objs r hr
    · cases h

theorem ksOk' : ksOk Tryd.prog ks ks = true := by kernel_rfl

end Go.Proofs.YtoebfbhcbpiheaaDoor
