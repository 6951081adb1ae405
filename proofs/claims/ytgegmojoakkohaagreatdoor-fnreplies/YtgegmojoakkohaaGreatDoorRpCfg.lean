/-
  The machine over the program of this seat.
-/
import Derived.Test.YtgegmojoakkohaaGreatDoorRows
import Derived.Test.YtgegmojoakkohaaGreatDoorVm5r
import Derived.Test.YtgegmojoakkohaaGreatDoorVm6
import Derived.Test.YtgegmojoakkohaaGreatDoorRpShelf
namespace Go.Proofs.YtgegmojoakkohaaGreatDoor
open Go.Vm

noncomputable def gPow : Nat := (Tryz.prog.globalNamed "internal/strconv.uint64pow10").getD 0

theorem gPow_is : Tryz.prog.globalNamed "internal/strconv.uint64pow10" = some gPow := by kernel_rfl

/-- What is told of the library's variables. -/
noncomputable def GG : Gl := (Gl.and (Gl.num .i64 5) (Gl.and (Gl.tab .u64 Lib.pow10Tab gPow) (Gl.and (Gl.err 0) (Gl.err 1))))

def exts (f : Nat) : Option (List V → List Vm.Obj → Option (V × List Vm.Obj × List Vm.Obj)) := match f with
  | 175 => some extSplit
  | 124 => some extItoa
  | 137 => some extAtoi
  | _ => none

def ks : List (TypeId × Kind) := [(22, .byte), (24, .term), (31, .str), (66, .int)]

def lhs (f r : Nat) : LoopH := match f, r with
  | 65, 3 => ⟨⟨[0, 3, 4], [], []⟩, ⟨[0, 3], [], []⟩, [(0, .sl .byte), (3, .int)], [], [0]⟩
  | 84, 3 => ⟨⟨[1, 2, 3, 4], [.own 1, .own 2, .own 3], [(.cell (.own 3) 3, .ret 3 3)]⟩, ⟨[2, 3], [.own 2, .own 3], [(.cell (.own 3) 3, .ret 3 3)]⟩, [(2, .bx (.own 2) 0), (3, .bx (.own 3) 0)], [(.own 2, .box [.int, .int, .str, .sl .term]), (.own 3, .box [.int, .int, .str, .row (.ret 3 3) .term]), (.ret 3 3, .row true .term)], [0]⟩
  | 85, 4 => ⟨⟨[1, 2, 6, 15, 16, 17], [], []⟩, ⟨[6], [], []⟩, [(6, .bool)], [], [0]⟩
  | 94, 4 => ⟨⟨[2, 3, 4, 5], [.own 2, .own 3], []⟩, ⟨[4], [], []⟩, [(4, .bool)], [], [0]⟩
  | 98, 3 => ⟨⟨[3, 7, 8, 9], [], []⟩, ⟨[3], [], []⟩, [(3, .int)], [], [0]⟩
  | 100, 10 => ⟨⟨[3, 4, 56, 57, 58], [.own 3], []⟩, ⟨[4], [], []⟩, [(4, .bool)], [], [1]⟩
  | 129, 10 => ⟨⟨[2, 3, 4, 5], [.own 2, .own 3], []⟩, ⟨[4], [], []⟩, [(4, .bool)], [], [1]⟩
  | 132, 3 => ⟨⟨[3, 6, 7, 8], [], [(.slot 3, .own 3)]⟩, ⟨[3], [], [(.slot 3, .own 3)]⟩, [(3, .row (.own 3) .term)], [(.own 3, .row true .term)], [0]⟩
  | 134, 5 => ⟨⟨[0, 2, 3, 4], [], []⟩, ⟨[0, 2, 3], [], []⟩, [(0, .str), (2, .int), (3, .int)], [], [0]⟩
  | 142, 3 => ⟨⟨[1, 3, 4], [.own 1], []⟩, ⟨[3], [], []⟩, [(3, .int)], [], [0]⟩
  | 143, 4 => ⟨⟨[1, 2, 3], [.own 1], []⟩, ⟨[1, 2], [.own 1], []⟩, [(1, .bx (.own 1) 0), (2, .bool)], [(.own 1, .recd (.el .term))], [0]⟩
  | 153, 3 => ⟨⟨[0, 1, 4, 5, 6], [], []⟩, ⟨[0, 1, 4, 5], [], []⟩, [(0, .str), (1, .int), (4, .bool), (5, .sl .str)], [], [0]⟩
  | 156, 5 => ⟨⟨[0, 3, 4], [], []⟩, ⟨[3, 4], [], []⟩, [(3, .bool), (4, .str)], [], [0]⟩
  | 159, 2 => ⟨⟨[0, 1, 4, 7, 8], [], []⟩, ⟨[4], [], []⟩, [(4, .int)], [], [0]⟩
  | 164, 2 => ⟨⟨[0, 2, 6, 7], [], []⟩, ⟨[0, 2], [], []⟩, [(0, .str), (2, .bool)], [], [0]⟩
  | 167, 4 => ⟨⟨[0, 3, 4, 5], [], [(.slot 3, .own 3)]⟩, ⟨[3], [], [(.slot 3, .own 3)]⟩, [(3, .row (.own 3) .str)], [(.own 3, .row true .str)], [0]⟩
  | 168, 2 => ⟨⟨[0, 2, 3], [], []⟩, ⟨[0, 2], [], []⟩, [(0, .str), (2, .bool)], [], [0]⟩
  | 176, 2 => ⟨⟨[0, 1, 4, 7, 8], [], []⟩, ⟨[4], [], []⟩, [(4, .int)], [], [0]⟩
  | _, _ => ⟨⟨[], [], []⟩, ⟨[], [], []⟩, [], [], []⟩

def hms (_ b : Nat) : Vm.Mode := match b with
  | 7 => .pure
  | 13 => .pure
  | 14 => .pure
  | 15 => .pure
  | 16 => .pure
  | 17 => .pure
  | 18 => .pure
  | 19 => .pure
  | 20 => .pure
  | 21 => .pure
  | 22 => .pure
  | 23 => .pure
  | 24 => .pure
  | 25 => .pure
  | 26 => .pure
  | 27 => .pure
  | 28 => .pure
  | 29 => .pure
  | 30 => .pure
  | 31 => .pure
  | 32 => .pure
  | 33 => .pure
  | 34 => .pure
  | 35 => .pure
  | 36 => .pure
  | 37 => .pure
  | 38 => .pure
  | 39 => .pure
  | 40 => .pure
  | 41 => .pure
  | 58 => .pure
  | 59 => .pure
  | 60 => .pure
  | 61 => .pure
  | 62 => .pure
  | 63 => .pure
  | 64 => .pure
  | 67 => .pure
  | 68 => .pure
  | 72 => .pure
  | 73 => .pure
  | 74 => .pure
  | 75 => .pure
  | 76 => .pure
  | 77 => .pure
  | 79 => .pure
  | 80 => .pure
  | 81 => .pure
  | 82 => .pure
  | 83 => .pure
  | 84 => .pure
  | 85 => .pure
  | 87 => .pure
  | 90 => .pure
  | 91 => .pure
  | 92 => .pure
  | 93 => .pure
  | 94 => .pure
  | 95 => .pure
  | 96 => .pure
  | 97 => .pure
  | 98 => .pure
  | 99 => .pure
  | 100 => .pure
  | 104 => .pure
  | 110 => .pure
  | 111 => .pure
  | 115 => .pure
  | 121 => .pure
  | 122 => .pure
  | 124 => .pure
  | 129 => .pure
  | 130 => .pure
  | 131 => .pure
  | 132 => .pure
  | 134 => .pure
  | 135 => .pure
  | 136 => .pure
  | 137 => .pure
  | 138 => .pure
  | 139 => .pure
  | 142 => .pure
  | 143 => .pure
  | 147 => .pure
  | 153 => .pure
  | 156 => .pure
  | 159 => .pure
  | 160 => .pure
  | 161 => .pure
  | 162 => .pure
  | 164 => .pure
  | 167 => .pure
  | 168 => .pure
  | 175 => .pure
  | 176 => .pure
  | 66 => .heap
  | 69 => .heap
  | 70 => .heap
  | 71 => .heap
  | 78 => .heap
  | 86 => .heap
  | 88 => .heap
  | 89 => .heap
  | 126 => .heap
  | 127 => .heap
  | 128 => .heap
  | 133 => .heap
  | _ => .inline

def shs (f t : Nat) : Sh := match f, t with
  | 67, _ => .tt
  | 96, _ => .tt
  | 130, _ => .tt
  | 73, _ => .tt
  | 77, _ => .tt
  | 75, _ => .tt
  | 72, _ => .tup [.tt, .bool]
  | 128, _ => .tt
  | _, 0 => .tup []
  | _, 3 => .int
  | _, 4 => .bool
  | _, 5 => .u8
  | _, 6 => .u8
  | _, 9 => .str
  | _, 10 => .str
  | _, 11 => .str
  | _, 22 => .sl .byte
  | _, 24 => .sl .term
  | _, 26 => .el .term
  | _, 28 => .client
  | _, 29 => .tup [.client, .bool]
  | _, 31 => .sl .str
  | _, 32 => .tup [.client, .sl .term]
  | _, 40 => .cert
  | _, 41 => .tup [.el .term, .bool]
  | _, 43 => .tup [.el .term, .el .term, .el .term, .el .term]
  | _, 45 => .tup [.el .term, .el .term]
  | _, 47 => .tup [.el .term, .el .term, .el .term, .el .term, .bool]
  | _, 50 => .tup [.el .term, .el .term, .el .term, .el .term, .str, .int]
  | _, 59 => .tup [.client, .el .term, .int]
  | _, 64 => .tup [.str, .bool]
  | _, 66 => .sl .int
  | _, 68 => .server
  | _, 69 => .tup [.server, .bool]
  | _, 72 => .tup [.server, .sl .term]
  | _, 86 => .tup [.el .term, .el .term, .bool]
  | _, 92 => .tup [.cert, .bool]
  | _, 117 => .err
  | _, 118 => .tup [.int, .err]
  | _, 122 => .tup [.client, .el .term]
  | _, 136 => .int
  | _, 137 => .tup [.raw, .err]
  | _, 148 => .tup [.sl .byte, .str]
  | _, 150 => .tup [.raw, .err]
  | _, 170 => .tup [.raw, .int]
  | _, 179 => .tup [.raw, .raw]
  | _, 188 => .u8
  | _, 189 => .u8
  | _, _ => .raw

def dls (f r : Nat) : List Vm.Id := match f, r with
  | 4, 25 => [.own 40, .own 41, .own 42, .own 43]
  | 13, 3 => [.own 2]
  | 16, 3 => [.own 13]
  | 16, 4 => [.own 14]
  | 17, 11 => [.own 2, .own 3, .own 4, .own 5]
  | 18, 4 => [.own 12]
  | 18, 5 => [.own 8]
  | 19, 2 => [.own 2, .own 3]
  | 20, 4 => [.own 17]
  | 20, 8 => [.own 4, .own 5, .own 6, .own 7]
  | 21, 4 => [.own 4, .own 5, .own 6, .own 7]
  | 21, 7 => [.own 15]
  | 21, 9 => [.own 4, .own 5, .own 6, .own 7]
  | 21, 10 => [.own 4, .own 5, .own 6, .own 7]
  | 23, 8 => [.own 2, .own 3, .own 4, .own 5, .ret 20 0]
  | 29, 2 => [.own 2, .own 3]
  | 30, 3 => [.own 17]
  | 32, 1 => [.own 2]
  | 33, 1 => [.own 2]
  | 40, 3 => [.own 6, .own 7]
  | 40, 7 => [.own 4]
  | 63, 1 => [.own 6]
  | 64, 1 => [.own 4]
  | 70, 6 => [.own 2]
  | 72, 3 => [.own 6, .own 7]
  | 72, 7 => [.own 4]
  | 75, 1 => [.own 6]
  | 76, 1 => [.own 4]
  | 78, 3 => [.arg 0]
  | 78, 6 => [.own 2, .own 3, .arg 0]
  | 78, 8 => [.own 2, .own 3, .arg 0]
  | 78, 9 => [.own 2, .own 3]
  | 79, 3 => [.own 2, .own 3]
  | 84, 5 => [.own 3]
  | 87, 1 => [.own 4]
  | 87, 4 => [.own 6, .own 7]
  | 87, 5 => [.own 8]
  | 90, 4 => [.own 2, .own 3]
  | 90, 5 => [.own 2, .own 3, .ret 7 0]
  | 97, 1 => [.own 4]
  | 97, 7 => [.own 14]
  | 115, 3 => [.own 2]
  | 128, 12 => [.arg 0]
  | 128, 17 => [.own 4, .arg 0]
  | 128, 19 => [.own 4, .arg 0]
  | 128, 20 => [.own 4, .arg 0]
  | 130, 1 => [.own 6]
  | _, _ => []

noncomputable def cfg : Cfg where
  tb := tbOf Tryz.prog ks
  hm := hms
  sh := shs
  eqT := eqOf Tryz.prog []
  lh := lhs
  dl := dls
  ext := exts

noncomputable abbrev RN := rn Tryz.prog cfg

set_option maxRecDepth 100000 in
theorem progOK : ProgOK GG Tryz.prog cfg where
  wide := by kernel_rfl
  tab := tabOK_of (ks := ks) (es := []) rfl rfl
  nm := names_of (by kernel_rfl)
  ext := fun f g args objs r h hr => by
    have h : exts f = some g := h
    unfold exts at h
    split at h
    · cases h
      exact extSplit_ok (G := GG) (T := 9) ⟨Tryz.f175, _, Tryz.func175, rfl, by kernel_rfl⟩ (fun s sep w h0 h1 hG => by
        obtain ⟨m, hm⟩ := hG.1
        exact Tryz.strings_Split s sep m w h0 hm h1) args objs r hr
    · cases h
      refine extItoa_ok (G := GG) ⟨Tryz.f124, _, Tryz.func124, rfl, by kernel_rfl⟩ (fun n w h0 h1 hG => (Tryz.strconv_Itoa n h0 h1 w (Gl.tab_is gPow_is hG.2.1)).mono ?_) args objs r hr
      rintro e w' ⟨rfl, k, os, rfl⟩
      exact ⟨rfl, below_grow w k os⟩
    · cases h
      exact extAtoi_ok (G := GG) ⟨Tryz.f137, _, Tryz.func137, rfl, by kernel_rfl⟩ (fun s v w hs h => Tryz.strconv_Atoi_ok s hs v h w) (fun s w hs h hG => by
        obtain ⟨ev, hv, hev⟩ := hG.2.2.1
        refine (Tryz.strconv_Atoi_syntax s hs h ev w hv hev).mono ?_
        rintro e w' ⟨N, rfl, _, _, hb⟩
        exact ⟨⟨_, _, rfl⟩, hb⟩) (fun s w hs h hG => by
        obtain ⟨ev, hv, hev⟩ := hG.2.2.2
        refine (Tryz.strconv_Atoi_range s hs h ev w hv hev).mono ?_
        rintro e w' ⟨N, rfl, _, _, hb⟩
        exact ⟨⟨_, _, rfl⟩, hb⟩) args objs r hr
    · cases h

theorem ksOk' : ksOk Tryz.prog ks ks = true := by kernel_rfl

end Go.Proofs.YtgegmojoakkohaaGreatDoor
