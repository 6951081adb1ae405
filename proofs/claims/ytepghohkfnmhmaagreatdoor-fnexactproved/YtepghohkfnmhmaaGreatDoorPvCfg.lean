/-
  The machine over the program of this seat.
-/
import Derived.Test.YtepghohkfnmhmaaGreatDoorRows
import Derived.Test.YtepghohkfnmhmaaGreatDoorVm5r
import Derived.Test.YtepghohkfnmhmaaGreatDoorVm6
import Derived.Test.YtepghohkfnmhmaaGreatDoorPvShelf
namespace Go.Proofs.YtepghohkfnmhmaaGreatDoor
open Go.Vm

noncomputable def gPow : Nat := (Tryz.prog.globalNamed "internal/strconv.uint64pow10").getD 0

theorem gPow_is : Tryz.prog.globalNamed "internal/strconv.uint64pow10" = some gPow := by kernel_rfl

/-- What is told of the library's variables. -/
noncomputable def GG : Gl := (Gl.and (Gl.num .i64 5) (Gl.and (Gl.tab .u64 Lib.pow10Tab gPow) (Gl.and (Gl.err 0) (Gl.err 1))))

def exts (f : Nat) : Option (List V → List Vm.Obj → Option (V × List Vm.Obj × List Vm.Obj)) := match f with
  | 91 => some extSplit
  | 75 => some extItoa
  | 45 => some extAtoi
  | _ => none

def ks : List (TypeId × Kind) := [(22, .term), (27, .term), (67, .byte), (76, .str)]

def lhs (f r : Nat) : LoopH := match f, r with
  | 9, 5 => ⟨⟨[0, 1, 4, 5], [], []⟩, ⟨[1, 4], [], []⟩, [(1, .int), (4, .int)], [], [0]⟩
  | 12, 4 => ⟨⟨[2, 3, 4, 5], [.own 2, .own 3], []⟩, ⟨[4], [], []⟩, [(4, .bool)], [], [0]⟩
  | 15, 3 => ⟨⟨[0, 3, 4], [], [(.slot 3, .own 3)]⟩, ⟨[3], [], [(.slot 3, .own 3)]⟩, [(3, .row (.own 3) .term)], [(.own 3, .row true .term)], [0]⟩
  | 21, 4 => ⟨⟨[0, 1, 4, 5], [], []⟩, ⟨[4], [], []⟩, [(4, .bool)], [], [0]⟩
  | 25, 3 => ⟨⟨[1, 2, 3, 4], [.own 1, .own 2, .own 3], [(.cell (.own 3) 3, .ret 3 3)]⟩, ⟨[2, 3], [.own 2, .own 3], [(.cell (.own 3) 3, .ret 3 3)]⟩, [(2, .bx (.own 2) 0), (3, .bx (.own 3) 0)], [(.own 2, .box [.int, .int, .str, .sl .term]), (.own 3, .box [.int, .int, .str, .row (.ret 3 3) .term]), (.ret 3 3, .row true .term)], [0]⟩
  | 35, 4 => ⟨⟨[1, 2, 6, 15, 16, 17], [], []⟩, ⟨[6], [], []⟩, [(6, .bool)], [], [0]⟩
  | 37, 5 => ⟨⟨[0, 2, 3, 4], [], []⟩, ⟨[0, 2, 3], [], []⟩, [(0, .str), (2, .int), (3, .int)], [], [0]⟩
  | 40, 3 => ⟨⟨[1, 3, 4], [.own 1], []⟩, ⟨[3], [], []⟩, [(3, .int)], [], [0]⟩
  | 41, 4 => ⟨⟨[1, 2, 3], [.own 1], []⟩, ⟨[1, 2], [.own 1], []⟩, [(1, .bx (.own 1) 0), (2, .bool)], [(.own 1, .recd (.el .term))], [0]⟩
  | 47, 3 => ⟨⟨[3, 7, 8, 9], [], []⟩, ⟨[3], [], []⟩, [(3, .int)], [], [0]⟩
  | 49, 3 => ⟨⟨[3, 6, 7, 8], [], [(.slot 3, .own 3)]⟩, ⟨[3], [], [(.slot 3, .own 3)]⟩, [(3, .row (.own 3) .term)], [(.own 3, .row true .term)], [0]⟩
  | 50, 5 => ⟨⟨[0, 3, 4], [], []⟩, ⟨[3, 4], [], []⟩, [(3, .bool), (4, .str)], [], [0]⟩
  | 56, 10 => ⟨⟨[2, 3, 4, 5], [.own 2, .own 3], []⟩, ⟨[4], [], []⟩, [(4, .bool)], [], [1]⟩
  | 67, 10 => ⟨⟨[3, 4, 56, 57, 58], [.own 3], []⟩, ⟨[4], [], []⟩, [(4, .bool)], [], [1]⟩
  | 68, 3 => ⟨⟨[0, 1, 4, 5, 6], [], []⟩, ⟨[0, 1, 4, 5], [], []⟩, [(0, .str), (1, .int), (4, .bool), (5, .sl .str)], [], [0]⟩
  | 76, 2 => ⟨⟨[0, 1, 4, 7, 8], [], []⟩, ⟨[4], [], []⟩, [(4, .int)], [], [0]⟩
  | 77, 4 => ⟨⟨[0, 3, 4, 5], [], [(.slot 3, .own 3)]⟩, ⟨[3], [], [(.slot 3, .own 3)]⟩, [(3, .row (.own 3) .str)], [(.own 3, .row true .str)], [0]⟩
  | 78, 2 => ⟨⟨[0, 2, 3], [], []⟩, ⟨[0, 2], [], []⟩, [(0, .str), (2, .bool)], [], [0]⟩
  | 89, 2 => ⟨⟨[0, 2, 6, 7], [], []⟩, ⟨[0, 2], [], []⟩, [(0, .str), (2, .bool)], [], [0]⟩
  | 92, 2 => ⟨⟨[0, 1, 4, 7, 8], [], []⟩, ⟨[4], [], []⟩, [(4, .int)], [], [0]⟩
  | _, _ => ⟨⟨[], [], []⟩, ⟨[], [], []⟩, [], [], []⟩

def hms (_ b : Nat) : Vm.Mode := match b with
  | 4 => .pure
  | 5 => .pure
  | 6 => .pure
  | 7 => .pure
  | 8 => .pure
  | 9 => .pure
  | 10 => .pure
  | 11 => .pure
  | 12 => .pure
  | 13 => .pure
  | 14 => .pure
  | 15 => .pure
  | 16 => .pure
  | 17 => .pure
  | 18 => .pure
  | 19 => .pure
  | 20 => .pure
  | 21 => .pure
  | 22 => .pure
  | 23 => .pure
  | 24 => .pure
  | 25 => .pure
  | 26 => .pure
  | 27 => .pure
  | 28 => .pure
  | 29 => .pure
  | 30 => .pure
  | 31 => .pure
  | 32 => .pure
  | 33 => .pure
  | 34 => .pure
  | 35 => .pure
  | 36 => .pure
  | 37 => .pure
  | 38 => .pure
  | 39 => .pure
  | 40 => .pure
  | 41 => .pure
  | 42 => .pure
  | 43 => .pure
  | 44 => .pure
  | 45 => .pure
  | 46 => .pure
  | 47 => .pure
  | 48 => .pure
  | 49 => .pure
  | 50 => .pure
  | 51 => .pure
  | 52 => .pure
  | 53 => .pure
  | 54 => .pure
  | 55 => .pure
  | 56 => .pure
  | 59 => .pure
  | 60 => .pure
  | 61 => .pure
  | 62 => .pure
  | 63 => .pure
  | 64 => .pure
  | 66 => .pure
  | 67 => .pure
  | 68 => .pure
  | 74 => .pure
  | 75 => .pure
  | 76 => .pure
  | 77 => .pure
  | 78 => .pure
  | 82 => .pure
  | 86 => .pure
  | 87 => .pure
  | 89 => .pure
  | 91 => .pure
  | 92 => .pure
  | _ => .inline

def shs (t : Nat) : Sh := match t with
  | 0 => .tup []
  | 3 => .int
  | 4 => .bool
  | 5 => .u8
  | 6 => .u8
  | 9 => .str
  | 10 => .str
  | 11 => .str
  | 22 => .sl .term
  | 24 => .el .term
  | 27 => .sl .term
  | 29 => .el .term
  | 34 => .tup [.el .term, .bool]
  | 42 => .cert
  | 43 => .tup [.cert, .bool]
  | 53 => .tup [.el .term, .el .term, .bool]
  | 56 => .err
  | 57 => .tup [.int, .err]
  | 67 => .sl .byte
  | 69 => .int
  | 70 => .tup [.raw, .err]
  | 76 => .sl .str
  | 79 => .tup [.raw, .err]
  | 98 => .tup [.sl .byte, .str]
  | 110 => .tup [.raw, .int]
  | 119 => .tup [.raw, .raw]
  | 128 => .u8
  | 129 => .u8
  | _ => .raw

def dls (f r : Nat) : List Vm.Id := match f, r with
  | 7, 3 => [.own 17]
  | 22, 1 => [.own 4]
  | 22, 4 => [.own 6, .own 7]
  | 22, 5 => [.own 8]
  | 25, 5 => [.own 3]
  | 29, 1 => [.own 4]
  | 29, 7 => [.own 14]
  | 39, 3 => [.own 2]
  | 42, 1 => [.own 6]
  | 44, 3 => [.own 2, .own 3]
  | 46, 3 => [.own 2]
  | _, _ => []

noncomputable def cfg : Cfg where
  tb := tbOf Tryz.prog ks
  hm := hms
  sh := shs
  eqT := eqOf Tryz.prog []
  lh := lhs
  dl := dls
  ext := exts

noncomputable abbrev RN := rn Tryz.prog cfg

set_option maxRecDepth 100000 in
theorem progOK : ProgOK GG Tryz.prog cfg where
  wide := by kernel_rfl
  tab := tabOK_of (ks := ks) (es := []) rfl rfl
  nm := names_of (by kernel_rfl)
  ext := fun f g args objs r h hr => by
    have h : exts f = some g := h
    unfold exts at h
    split at h
    · cases h
      exact extSplit_ok (G := GG) (T := 9) ⟨Tryz.f91, _, Tryz.func91, rfl, by kernel_rfl⟩ (fun s sep w h0 h1 hG => by
        obtain ⟨m, hm⟩ := hG.1
        exact Tryz.strings_Split s sep m w h0 hm h1) args objs r hr
    · cases h
      refine extItoa_ok (G := GG) ⟨Tryz.f75, _, Tryz.func75, rfl, by kernel_rfl⟩ (fun n w h0 h1 hG => (Tryz.strconv_Itoa n h0 h1 w (Gl.tab_is gPow_is hG.2.1)).mono ?_) args objs r hr
      rintro e w' ⟨rfl, k, os, rfl⟩
      exact ⟨rfl, below_grow w k os⟩
    · cases h
      exact extAtoi_ok (G := GG) ⟨Tryz.f45, _, Tryz.func45, rfl, by kernel_rfl⟩ (fun s v w hs h => Tryz.strconv_Atoi_ok s hs v h w) (fun s w hs h hG => by
        obtain ⟨ev, hv, hev⟩ := hG.2.2.1
        refine (Tryz.strconv_Atoi_syntax s hs h ev w hv hev).mono ?_
        rintro e w' ⟨N, rfl, _, _, hb⟩
        exact ⟨⟨_, _, rfl⟩, hb⟩) (fun s w hs h hG => by
        obtain ⟨ev, hv, hev⟩ := hG.2.2.2
        refine (Tryz.strconv_Atoi_range s hs h ev w hv hev).mono ?_
        rintro e w' ⟨N, rfl, _, _, hb⟩
        exact ⟨⟨_, _, rfl⟩, hb⟩) args objs r hr
    · cases h

theorem ksOk' : ksOk Tryz.prog ks ks = true := by kernel_rfl

end Go.Proofs.YtepghohkfnmhmaaGreatDoor
