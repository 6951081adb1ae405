/-
  The machine over the program of this seat.
-/
import Derived.Test.YtgegmojoakkohaaGreatDoorRows
import Derived.Test.YtgegmojoakkohaaGreatDoorVm5r
import Derived.Test.YtgegmojoakkohaaGreatDoorVm6
import Derived.Test.YtgegmojoakkohaaGreatDoorMeShelf
namespace Go.Proofs.YtgegmojoakkohaaGreatDoor
open Go.Vm

noncomputable def gPow : Nat := (Tryz.prog.globalNamed "internal/strconv.uint64pow10").getD 0

theorem gPow_is : Tryz.prog.globalNamed "internal/strconv.uint64pow10" = some gPow := by kernel_rfl

/-- What is told of the library's variables. -/
noncomputable def GG : Gl := (Gl.and (Gl.num .i64 5) (Gl.and (Gl.tab .u64 Lib.pow10Tab gPow) (Gl.and (Gl.err 0) (Gl.err 1))))

def exts (f : Nat) : Option (List V → List Vm.Obj → Option (V × List Vm.Obj × List Vm.Obj)) := match f with
  | 175 => some extSplit
  | 124 => some extItoa
  | 137 => some extAtoi
  | _ => none

def ks : List (TypeId × Kind) := [(22, .byte), (24, .term), (31, .str), (66, .int)]

def lhs (f r : Nat) : LoopH := match f, r with
  | 6, 11 => ⟨⟨[5, 7, 11, 12], [.own 5, .own 7], [(.slot 11, .own 11)]⟩, ⟨[5, 7], [.own 5, .own 7], []⟩, [(5, .bx (.own 5) 0), (7, .bx (.own 7) 0)], [(.own 5, .recd (.client)), (.own 7, .recd (.server))], [0]⟩
  | 6, 15 => ⟨⟨[5, 7, 11, 12, 13, 14], [.own 5, .own 7], [(.slot 11, .own 11), (.slot 13, .own 13)]⟩, ⟨[5, 7, 12, 13], [.own 5, .own 7], [(.slot 13, .own 13)]⟩, [(5, .bx (.own 5) 0), (7, .bx (.own 7) 0), (12, .int), (13, .row (.own 13) .term)], [(.own 5, .recd (.client)), (.own 7, .recd (.server)), (.own 13, .row true .term)], [2]⟩
  | 6, 22 => ⟨⟨[5, 7, 11, 12, 13, 17], [.own 5, .own 7], [(.slot 11, .own 11), (.slot 13, .own 13)]⟩, ⟨[5, 7, 11, 12], [.own 5, .own 7], [(.slot 11, .own 11)]⟩, [(5, .bx (.own 5) 0), (7, .bx (.own 7) 0), (11, .row (.own 11) .term), (12, .int)], [(.own 5, .recd (.client)), (.own 7, .recd (.server)), (.own 11, .row true .term)], [4]⟩
  | 84, 3 => ⟨⟨[1, 2, 3, 4], [.own 1, .own 2, .own 3], [(.cell (.own 3) 3, .ret 3 3)]⟩, ⟨[2, 3], [.own 2, .own 3], [(.cell (.own 3) 3, .ret 3 3)]⟩, [(2, .bx (.own 2) 0), (3, .bx (.own 3) 0)], [(.own 2, .box [.int, .int, .str, .sl .term]), (.own 3, .box [.int, .int, .str, .row (.ret 3 3) .term]), (.ret 3 3, .row true .term)], [0]⟩
  | 85, 4 => ⟨⟨[1, 2, 6, 15, 16, 17], [], []⟩, ⟨[6], [], []⟩, [(6, .bool)], [], [0]⟩
  | 94, 4 => ⟨⟨[2, 3, 4, 5], [.own 2, .own 3], []⟩, ⟨[4], [], []⟩, [(4, .bool)], [], [0]⟩
  | 98, 3 => ⟨⟨[3, 7, 8, 9], [], []⟩, ⟨[3], [], []⟩, [(3, .int)], [], [0]⟩
  | 100, 10 => ⟨⟨[3, 4, 56, 57, 58], [.own 3], []⟩, ⟨[4], [], []⟩, [(4, .bool)], [], [1]⟩
  | 116, 2 => ⟨⟨[1, 2, 3], [.own 1], []⟩, ⟨[1, 2], [.own 1], []⟩, [(1, .bx (.own 1) 0), (2, .bool)], [(.own 1, .recd (.server))], [0]⟩
  | 129, 10 => ⟨⟨[2, 3, 4, 5], [.own 2, .own 3], []⟩, ⟨[4], [], []⟩, [(4, .bool)], [], [1]⟩
  | 132, 3 => ⟨⟨[3, 6, 7, 8], [], [(.slot 3, .own 3)]⟩, ⟨[3], [], [(.slot 3, .own 3)]⟩, [(3, .row (.own 3) .term)], [(.own 3, .row true .term)], [0]⟩
  | 142, 3 => ⟨⟨[1, 3, 4], [.own 1], []⟩, ⟨[3], [], []⟩, [(3, .int)], [], [0]⟩
  | 143, 4 => ⟨⟨[1, 2, 3], [.own 1], []⟩, ⟨[1, 2], [.own 1], []⟩, [(1, .bx (.own 1) 0), (2, .bool)], [(.own 1, .recd (.el .term))], [0]⟩
  | 153, 3 => ⟨⟨[0, 1, 4, 5, 6], [], []⟩, ⟨[0, 1, 4, 5], [], []⟩, [(0, .str), (1, .int), (4, .bool), (5, .sl .str)], [], [0]⟩
  | 156, 5 => ⟨⟨[0, 3, 4], [], []⟩, ⟨[3, 4], [], []⟩, [(3, .bool), (4, .str)], [], [0]⟩
  | 159, 2 => ⟨⟨[0, 1, 4, 7, 8], [], []⟩, ⟨[4], [], []⟩, [(4, .int)], [], [0]⟩
  | 164, 2 => ⟨⟨[0, 2, 6, 7], [], []⟩, ⟨[0, 2], [], []⟩, [(0, .str), (2, .bool)], [], [0]⟩
  | 165, 2 => ⟨⟨[0, 1, 4, 7, 8], [], []⟩, ⟨[4], [], []⟩, [(4, .int)], [], [0]⟩
  | 167, 4 => ⟨⟨[0, 3, 4, 5], [], [(.slot 3, .own 3)]⟩, ⟨[3], [], [(.slot 3, .own 3)]⟩, [(3, .row (.own 3) .str)], [(.own 3, .row true .str)], [0]⟩
  | 168, 2 => ⟨⟨[0, 2, 3], [], []⟩, ⟨[0, 2], [], []⟩, [(0, .str), (2, .bool)], [], [0]⟩
  | 176, 2 => ⟨⟨[0, 1, 4, 7, 8], [], []⟩, ⟨[4], [], []⟩, [(4, .int)], [], [0]⟩
  | _, _ => ⟨⟨[], [], []⟩, ⟨[], [], []⟩, [], [], []⟩

def hms (a b : Nat) : Vm.Mode := match a, b with
  | 119, 117 => .inline
  | 151, 117 => .inline
  | 151, 166 => .inline
  | 166, 117 => .inline
  | 166, 119 => .inline
  | _, 7 => .pure
  | _, 8 => .pure
  | _, 10 => .pure
  | _, 12 => .pure
  | _, 13 => .pure
  | _, 14 => .pure
  | _, 15 => .pure
  | _, 16 => .pure
  | _, 20 => .pure
  | _, 22 => .pure
  | _, 25 => .pure
  | _, 30 => .pure
  | _, 32 => .pure
  | _, 34 => .pure
  | _, 36 => .pure
  | _, 38 => .pure
  | _, 39 => .pure
  | _, 40 => .pure
  | _, 41 => .pure
  | _, 46 => .pure
  | _, 47 => .pure
  | _, 48 => .pure
  | _, 49 => .pure
  | _, 50 => .pure
  | _, 51 => .pure
  | _, 53 => .pure
  | _, 54 => .pure
  | _, 55 => .pure
  | _, 56 => .pure
  | _, 57 => .pure
  | _, 58 => .pure
  | _, 59 => .pure
  | _, 60 => .pure
  | _, 61 => .pure
  | _, 62 => .pure
  | _, 63 => .pure
  | _, 64 => .pure
  | _, 67 => .pure
  | _, 68 => .pure
  | _, 73 => .pure
  | _, 77 => .pure
  | _, 79 => .pure
  | _, 80 => .pure
  | _, 81 => .pure
  | _, 84 => .pure
  | _, 85 => .pure
  | _, 91 => .pure
  | _, 94 => .pure
  | _, 95 => .pure
  | _, 97 => .pure
  | _, 98 => .pure
  | _, 99 => .pure
  | _, 100 => .pure
  | _, 104 => .pure
  | _, 110 => .pure
  | _, 111 => .pure
  | _, 112 => .pure
  | _, 113 => .pure
  | _, 114 => .pure
  | _, 115 => .pure
  | _, 116 => .pure
  | _, 117 => .pure
  | _, 118 => .pure
  | _, 119 => .pure
  | _, 120 => .pure
  | _, 121 => .pure
  | _, 122 => .pure
  | _, 123 => .pure
  | _, 124 => .pure
  | _, 125 => .pure
  | _, 129 => .pure
  | _, 130 => .pure
  | _, 131 => .pure
  | _, 132 => .pure
  | _, 135 => .pure
  | _, 137 => .pure
  | _, 138 => .pure
  | _, 139 => .pure
  | _, 142 => .pure
  | _, 143 => .pure
  | _, 147 => .pure
  | _, 148 => .pure
  | _, 150 => .pure
  | _, 151 => .pure
  | _, 152 => .pure
  | _, 153 => .pure
  | _, 154 => .pure
  | _, 156 => .pure
  | _, 159 => .pure
  | _, 160 => .pure
  | _, 161 => .pure
  | _, 162 => .pure
  | _, 164 => .pure
  | _, 165 => .pure
  | _, 166 => .pure
  | _, 167 => .pure
  | _, 168 => .pure
  | _, 175 => .pure
  | _, 176 => .pure
  | _, _ => .inline

def shs (f t : Nat) : Sh := match f, t with
  | _, 0 => .tup []
  | _, 3 => .int
  | _, 4 => .bool
  | _, 5 => .u8
  | _, 6 => .u8
  | _, 9 => .str
  | _, 10 => .str
  | _, 11 => .str
  | _, 22 => .sl .byte
  | _, 24 => .sl .term
  | _, 26 => .el .term
  | _, 28 => .client
  | _, 29 => .tup [.client, .bool]
  | _, 31 => .sl .str
  | _, 32 => .tup [.client, .sl .term]
  | _, 40 => .cert
  | _, 41 => .tup [.el .term, .bool]
  | _, 43 => .tup [.el .term, .el .term, .el .term, .el .term]
  | _, 45 => .tup [.el .term, .el .term]
  | _, 47 => .tup [.el .term, .el .term, .el .term, .el .term, .bool]
  | _, 50 => .tup [.el .term, .el .term, .el .term, .el .term, .str, .int]
  | _, 59 => .tup [.client, .el .term, .int]
  | _, 64 => .tup [.str, .bool]
  | _, 66 => .sl .int
  | _, 68 => .server
  | _, 69 => .tup [.server, .bool]
  | _, 72 => .tup [.server, .sl .term]
  | _, 86 => .tup [.el .term, .el .term, .bool]
  | _, 92 => .tup [.cert, .bool]
  | _, 117 => .err
  | _, 118 => .tup [.int, .err]
  | _, 122 => .tup [.client, .el .term]
  | _, 136 => .int
  | _, 137 => .tup [.raw, .err]
  | _, 148 => .tup [.sl .byte, .str]
  | _, 150 => .tup [.raw, .err]
  | _, 170 => .tup [.raw, .int]
  | _, 179 => .tup [.raw, .raw]
  | _, 188 => .u8
  | _, 189 => .u8
  | _, _ => .raw

def dls (f r : Nat) : List Vm.Id := match f, r with
  | 6, 17 => [.own 15]
  | 6, 24 => [.own 18]
  | 13, 3 => [.own 2]
  | 16, 3 => [.own 13]
  | 16, 4 => [.own 14]
  | 20, 4 => [.own 17]
  | 20, 8 => [.own 4, .own 5, .own 6, .own 7]
  | 30, 3 => [.own 17]
  | 32, 1 => [.own 2]
  | 40, 3 => [.own 6, .own 7]
  | 40, 7 => [.own 4]
  | 54, 9 => [.own 15]
  | 54, 10 => [.own 15]
  | 54, 11 => [.own 6]
  | 55, 3 => [.own 6]
  | 57, 5 => [.own 4]
  | 57, 7 => [.own 4]
  | 57, 9 => [.own 4]
  | 57, 12 => [.own 4]
  | 57, 14 => [.own 4]
  | 57, 16 => [.own 4]
  | 57, 18 => [.own 4]
  | 63, 1 => [.own 6]
  | 64, 1 => [.own 4]
  | 79, 3 => [.own 2, .own 3]
  | 84, 5 => [.own 3]
  | 97, 1 => [.own 4]
  | 97, 7 => [.own 14]
  | 115, 3 => [.own 2]
  | 117, 1 => [.own 1]
  | 118, 2 => [.own 8]
  | 118, 3 => [.own 10]
  | 118, 8 => [.own 4]
  | 120, 1 => [.own 6, .own 7]
  | 120, 3 => [.own 8]
  | 123, 5 => [.own 6]
  | 130, 1 => [.own 6]
  | 154, 3 => [.own 4, .own 5]
  | 154, 5 => [.own 4, .own 5]
  | 166, 4 => [.own 6]
  | 166, 8 => [.own 6]
  | _, _ => []

def brs (f : Nat) : Bool := match f with
  | 6 => true
  | _ => false

def nats (f : Nat) : Option Nt := match f with
  | 150 => some (.clone .int)
  | _ => none

def ars (f s : Nat) : Bool := match f, s with
  | _, _ => false

noncomputable def cfg : Cfg where
  tb := tbOf Tryz.prog ks
  hm := hms
  sh := shs
  eqT := eqOf Tryz.prog []
  lh := lhs
  dl := dls
  ext := exts
  nat := nats
  ar := ars
  br := brs

noncomputable abbrev RN := rn Tryz.prog cfg

set_option maxRecDepth 100000 in
theorem progOK : ProgOK GG Tryz.prog cfg where
  wide := by kernel_rfl
  tab := tabOK_of (ks := ks) (es := []) rfl rfl fun f nt h => by
    have h : nats f = some nt := h
    unfold nats at h
    split at h
    · cases h
      exact natClone_int (T := 3) ⟨Tryz.f150, _, Tryz.func150, rfl, by kernel_rfl⟩ (fun b off n c zs w h0 h1 h2 => Tryz.slices_Clone_int b off n c zs w h0 h1 h2) (fun n c w => Tryz.slices_Clone_int_nil n c w) (fun a c w => Tryz.slices_Clone_int_zero a c w)
    · cases h

  nm := names_of (by kernel_rfl)
  ext := fun f g args objs r h hr => by
    have h : exts f = some g := h
    unfold exts at h
    split at h
    · cases h
      exact extSplit_ok (G := GG) (T := 9) ⟨Tryz.f175, _, Tryz.func175, rfl, by kernel_rfl⟩ (fun s sep w h0 h1 hG => by
        obtain ⟨m, hm⟩ := hG.1
        exact Tryz.strings_Split s sep m w h0 hm h1) args objs r hr
    · cases h
      refine extItoa_ok (G := GG) ⟨Tryz.f124, _, Tryz.func124, rfl, by kernel_rfl⟩ (fun n w h0 h1 hG => (Tryz.strconv_Itoa n h0 h1 w (Gl.tab_is gPow_is hG.2.1)).mono ?_) args objs r hr
      rintro e w' ⟨rfl, k, os, rfl⟩
      exact ⟨rfl, below_grow w k os⟩
    · cases h
      exact extAtoi_ok (G := GG) ⟨Tryz.f137, _, Tryz.func137, rfl, by kernel_rfl⟩ (fun s v w hs h => Tryz.strconv_Atoi_ok s hs v h w) (fun s w hs h hG => by
        obtain ⟨ev, hv, hev⟩ := hG.2.2.1
        refine (Tryz.strconv_Atoi_syntax s hs h ev w hv hev).mono ?_
        rintro e w' ⟨N, rfl, _, _, hb⟩
        exact ⟨⟨_, _, rfl⟩, hb⟩) (fun s w hs h hG => by
        obtain ⟨ev, hv, hev⟩ := hG.2.2.2
        refine (Tryz.strconv_Atoi_range s hs h ev w hv hev).mono ?_
        rintro e w' ⟨N, rfl, _, _, hb⟩
        exact ⟨⟨_, _, rfl⟩, hb⟩) args objs r hr
    · cases h

theorem ksOk' : ksOk Tryz.prog ks ks = true := by kernel_rfl

end Go.Proofs.YtgegmojoakkohaaGreatDoor
