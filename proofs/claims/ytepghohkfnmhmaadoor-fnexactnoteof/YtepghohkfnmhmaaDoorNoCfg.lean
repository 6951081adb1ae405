/-
  The machine over the program of this seat.
-/
import Derived.Test.YtepghohkfnmhmaaDoorRows
import Derived.Test.YtepghohkfnmhmaaDoorVm5r
import Derived.Test.YtepghohkfnmhmaaDoorVm6
import Derived.Test.YtepghohkfnmhmaaDoorNoShelf
namespace Go.Proofs.YtepghohkfnmhmaaDoor
open Go.Vm

noncomputable def gPow : Nat := (Tryd.prog.globalNamed "internal/strconv.uint64pow10").getD 0

theorem gPow_is : Tryd.prog.globalNamed "internal/strconv.uint64pow10" = some gPow := by kernel_rfl

/-- What is told of the library's variables. -/
noncomputable def GG : Gl := (Gl.and (Gl.num .i64 0) (Gl.and (Gl.tab .u64 Lib.pow10Tab gPow) (Gl.and (Gl.err 1) (Gl.err 2))))

def exts (f : Nat) : Option (List V → List Vm.Obj → Option (V × List Vm.Obj × List Vm.Obj)) := match f with
  | 52 => some extSplit
  | 71 => some extItoa
  | 93 => some extAtoi
  | _ => none

def ks : List (TypeId × Kind) := [(22, .term), (29, .term), (41, .int), (57, .policy), (58, .host), (59, .letter), (60, .call), (61, .talk), (66, .policy), (67, .host), (68, .letter), (69, .call), (70, .talk), (87, .str), (143, .byte)]

def lhs (f r : Nat) : LoopH := match f, r with
  | 22, 7 => ⟨⟨[0, 2, 4, 5, 6, 7], [.own 2, .own 6], []⟩, ⟨[0, 2, 4, 6], [.own 2, .own 6], []⟩, [(0, .str), (2, .bx (.own 2) 0), (4, .sl .str), (6, .bx (.own 6) 0)], [(.own 2, .recd (.el .note)), (.own 6, .recd (.el .note))], [0]⟩
  | 49, 4 => ⟨⟨[0, 3, 4, 5], [], [(.slot 3, .own 3)]⟩, ⟨[3], [], [(.slot 3, .own 3)]⟩, [(3, .row (.own 3) .str)], [(.own 3, .row true .str)], [0]⟩
  | 50, 3 => ⟨⟨[0, 3, 4], [], []⟩, ⟨[3], [], []⟩, [(3, .int)], [], [0]⟩
  | 62, 5 => ⟨⟨[0, 3, 4], [], []⟩, ⟨[3, 4], [], []⟩, [(3, .bool), (4, .str)], [], [0]⟩
  | 128, 2 => ⟨⟨[0, 2, 3], [], []⟩, ⟨[0, 2], [], []⟩, [(0, .str), (2, .bool)], [], [0]⟩
  | 135, 2 => ⟨⟨[0, 2, 5, 6], [], []⟩, ⟨[0, 2], [], []⟩, [(0, .str), (2, .bool)], [], [0]⟩
  | _, _ => ⟨⟨[], [], []⟩, ⟨[], [], []⟩, [], [], []⟩

def hms (_ b : Nat) : Vm.Mode := match b with
  | 22 => .pure
  | 23 => .pure
  | 24 => .pure
  | 31 => .pure
  | 36 => .pure
  | 38 => .pure
  | 49 => .pure
  | 50 => .pure
  | 51 => .pure
  | 52 => .pure
  | 53 => .pure
  | 54 => .pure
  | 55 => .pure
  | 62 => .pure
  | 71 => .pure
  | 90 => .pure
  | 92 => .pure
  | 93 => .pure
  | 94 => .pure
  | 128 => .pure
  | 132 => .pure
  | 135 => .pure
  | 136 => .pure
  | _ => .inline

def shs (t : Nat) : Sh := match t with
  | 0 => .tup []
  | 3 => .int
  | 4 => .bool
  | 5 => .u8
  | 6 => .u8
  | 9 => .str
  | 10 => .str
  | 11 => .str
  | 22 => .sl .term
  | 24 => .el .term
  | 26 => .client
  | 29 => .sl .term
  | 31 => .el .term
  | 33 => .client
  | 37 => .tup [.client, .bool]
  | 41 => .sl .int
  | 43 => .server
  | 47 => .server
  | 52 => .el .note
  | 53 => .tup [.el .note, .bool]
  | 57 => .sl .policy
  | 58 => .sl .host
  | 59 => .sl .letter
  | 60 => .sl .call
  | 61 => .sl .talk
  | 63 => .world
  | 66 => .sl .policy
  | 67 => .sl .host
  | 68 => .sl .letter
  | 69 => .sl .call
  | 70 => .sl .talk
  | 72 => .world
  | 87 => .sl .str
  | 103 => .el .letter
  | 106 => .el .call
  | 126 => .err
  | 127 => .tup [.int, .err]
  | 131 => .el .policy
  | 134 => .el .host
  | 136 => .el .letter
  | 139 => .el .call
  | 142 => .el .talk
  | 143 => .sl .byte
  | 145 => .el .policy
  | 147 => .el .host
  | 152 => .el .talk
  | 179 => .tup [.raw, .int]
  | 182 => .int
  | 183 => .tup [.raw, .err]
  | 192 => .tup [.sl .byte, .str]
  | 196 => .tup [.raw, .err]
  | 214 => .tup [.raw, .raw]
  | 229 => .u8
  | 230 => .u8
  | _ => .raw

def dls (f r : Nat) : List Vm.Id := match f, r with
  | 94, 8 => [.own 3]
  | _, _ => []

noncomputable def cfg : Cfg where
  tb := tbOf Tryd.prog ks
  hm := hms
  sh := shs
  eqT := eqOf Tryd.prog [103, 52, 147]
  lh := lhs
  dl := dls
  ext := exts

noncomputable abbrev RN := rn Tryd.prog cfg

set_option maxRecDepth 100000 in
theorem progOK : ProgOK GG Tryd.prog cfg where
  wide := by kernel_rfl
  tab := tabOK_of (ks := ks) (es := [103, 52, 147]) rfl rfl
  nm := names_of (by kernel_rfl)
  ext := fun f g args objs r h hr => by
    have h : exts f = some g := h
    unfold exts at h
    split at h
    · cases h
      exact extSplit_ok (G := GG) (T := 9) ⟨Tryd.f52, _, Tryd.func52, rfl, by kernel_rfl⟩ (fun s sep w h0 h1 hG => by
        obtain ⟨m, hm⟩ := hG.1
        exact Tryd.strings_Split s sep m w h0 hm h1) args objs r hr
    · cases h
      refine extItoa_ok (G := GG) ⟨Tryd.f71, _, Tryd.func71, rfl, by kernel_rfl⟩ (fun n w h0 h1 hG => (Tryd.strconv_Itoa n h0 h1 w (Gl.tab_is gPow_is hG.2.1)).mono ?_) args objs r hr
      rintro e w' ⟨rfl, k, os, rfl⟩
      exact ⟨rfl, below_grow w k os⟩
    · cases h
      exact extAtoi_ok (G := GG) ⟨Tryd.f93, _, Tryd.func93, rfl, by kernel_rfl⟩ (fun s v w hs h => Tryd.strconv_Atoi_ok s hs v h w) (fun s w hs h hG => by
        obtain ⟨ev, hv, hev⟩ := hG.2.2.1
        refine (Tryd.strconv_Atoi_syntax s hs h ev w hv hev).mono ?_
        rintro e w' ⟨N, rfl, _, _, hb⟩
        exact ⟨⟨_, _, rfl⟩, hb⟩) (fun s w hs h hG => by
        obtain ⟨ev, hv, hev⟩ := hG.2.2.2
        refine (Tryd.strconv_Atoi_range s hs h ev w hv hev).mono ?_
        rintro e w' ⟨N, rfl, _, _, hb⟩
        exact ⟨⟨_, _, rfl⟩, hb⟩) args objs r hr
    · cases h

theorem ksOk' : ksOk Tryd.prog ks ks = true := by kernel_rfl

end Go.Proofs.YtepghohkfnmhmaaDoor
