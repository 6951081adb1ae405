/-
  The machine over the program of this seat.
-/
import Derived.Test.YthhgnkogjccceaaDoorRows
import Derived.Test.YthhgnkogjccceaaDoorVmLaw
import Derived.Test.YthhgnkogjccceaaDoorVmLoop
import Derived.Test.YthhgnkogjccceaaDoorVmExt
import Derived.Test.YthhgnkogjccceaaDoorTrydShelf
namespace Go.Proofs.YthhgnkogjccceaaDoor
open Go.Vm

def gPow : Nat := 0

theorem gPow_is : Tryd.prog.globalNamed "internal/strconv.uint64pow10" = some gPow := by kernel_rfl

/-- The library's table that strconv.Itoa reads. -/
def GG : Gl := Gl.tab .u64 Lib.pow10Tab gPow

def exts (f : Nat) : Option (List V → List Vm.Obj → Option (V × List Vm.Obj × List Vm.Obj)) := match f with
  | 28 => some extItoa
  | 36 => some extJoin
  | _ => none

def ks : List (TypeId × Kind) := [(29, .str), (45, .term), (48, .int), (53, .term), (78, .byte)]

def lhs (f r : Nat) : LoopH := match f, r with
  | 29, 5 => ⟨⟨[0, 1, 4, 5], [], []⟩, ⟨[1, 4], [], []⟩, [(1, .int), (4, .int)], [], [0]⟩
  | 31, 3 => ⟨⟨[0, 3, 4], [], [(.slot 3, .own 3)]⟩, ⟨[3], [], [(.slot 3, .own 3)]⟩, [(3, .row (.own 3) .str)], [(.own 3, .row true .str)], [0]⟩
  | 34, 4 => ⟨⟨[0, 1, 4, 5], [], []⟩, ⟨[4], [], []⟩, [(4, .bool)], [], [0]⟩
  | 41, 3 => ⟨⟨[0, 3, 4], [], [(.slot 3, .own 3)]⟩, ⟨[3], [], [(.slot 3, .own 3)]⟩, [(3, .row (.own 3) .int)], [(.own 3, .row true .int)], [0]⟩
  | 43, 4 => ⟨⟨[0, 1, 4, 5], [], []⟩, ⟨[4], [], []⟩, [(4, .bool)], [], [0]⟩
  | 52, 5 => ⟨⟨[0, 1, 4, 5], [], []⟩, ⟨[1, 4], [], []⟩, [(1, .int), (4, .int)], [], [0]⟩
  | 53, 3 => ⟨⟨[0, 3, 4], [], [(.slot 3, .own 3)]⟩, ⟨[3], [], [(.slot 3, .own 3)]⟩, [(3, .row (.own 3) .term)], [(.own 3, .row true .term)], [0]⟩
  | 54, 4 => ⟨⟨[0, 1, 4, 5], [], []⟩, ⟨[4], [], []⟩, [(4, .bool)], [], [0]⟩
  | 12, 6 => ⟨⟨[1, 4, 5], [.own 1], []⟩, ⟨[1, 4], [.own 1], []⟩, [(1, .bx (.own 1) 0), (4, .str)], [(.own 1, .box [.str, .int, .sl .str, .int])], [0]⟩
  | 26, 5 => ⟨⟨[0, 3, 4], [], []⟩, ⟨[3, 4], [], []⟩, [(3, .bool), (4, .str)], [], [0]⟩
  | 44, 2 => ⟨⟨[0, 2, 3], [], []⟩, ⟨[0, 2], [], []⟩, [(0, .str), (2, .bool)], [], [0]⟩
  | 14, 6 => ⟨⟨[1, 4, 21, 22, 23], [.own 1], []⟩, ⟨[1, 4], [.own 1], []⟩, [(1, .bx (.own 1) 0), (4, .str)], [(.own 1, .box [.str, .int, .sl .str, .int])], [0]⟩
  | 45, 2 => ⟨⟨[0, 2, 5, 6], [], []⟩, ⟨[0, 2], [], []⟩, [(0, .str), (2, .bool)], [], [0]⟩
  | _, _ => ⟨⟨[], [], []⟩, ⟨[], [], []⟩, [], [], []⟩

def hms (_ b : Nat) : Vm.Mode := match b with
  | 7 => .pure
  | 8 => .pure
  | 9 => .pure
  | 10 => .pure
  | 11 => .pure
  | 12 => .pure
  | 13 => .pure
  | 14 => .pure
  | 15 => .pure
  | 16 => .pure
  | 17 => .pure
  | 18 => .pure
  | 19 => .pure
  | 20 => .pure
  | 21 => .pure
  | 22 => .pure
  | 23 => .pure
  | 24 => .pure
  | 25 => .pure
  | 26 => .pure
  | 27 => .pure
  | 28 => .pure
  | 29 => .pure
  | 31 => .pure
  | 33 => .pure
  | 34 => .pure
  | 35 => .pure
  | 36 => .pure
  | 37 => .pure
  | 38 => .pure
  | 39 => .pure
  | 40 => .pure
  | 41 => .pure
  | 42 => .pure
  | 43 => .pure
  | 44 => .pure
  | 45 => .pure
  | 52 => .pure
  | 53 => .pure
  | 54 => .pure
  | _ => .inline

def shs (t : Nat) : Sh := match t with
  | 0 => .tup []
  | 3 => .int
  | 4 => .bool
  | 5 => .u8
  | 6 => .u8
  | 9 => .str
  | 10 => .str
  | 11 => .str
  | 23 => .el .note
  | 26 => .el .note
  | 29 => .sl .str
  | 31 => .el .policy
  | 34 => .el .policy
  | 39 => .el .letter
  | 42 => .el .letter
  | 45 => .sl .term
  | 47 => .el .term
  | 48 => .sl .int
  | 50 => .server
  | 53 => .sl .term
  | 55 => .el .term
  | 57 => .server
  | 78 => .sl .byte
  | 86 => .tup [.int, .raw]
  | 98 => .tup [.sl .byte, .str]
  | 119 => .u8
  | 120 => .u8
  | _ => .raw

def dls (f r : Nat) : List Vm.Id := match f, r with
  | 27, 8 => [.own 3]
  | _, _ => []

noncomputable def cfg : Cfg where
  tb := tbOf Tryd.prog ks
  hm := hms
  sh := shs
  eqT := eqOf Tryd.prog [26, 42]
  lh := lhs
  dl := dls
  ext := exts

noncomputable abbrev RN := rn Tryd.prog cfg

set_option maxRecDepth 100000 in
theorem progOK : ProgOK GG Tryd.prog cfg where
  wide := by kernel_rfl
  tab := tabOK_of (ks := ks) (es := [26, 42]) rfl rfl
  nm := names_of (by kernel_rfl)
  ext := fun f g args objs r h hr => by
    have h : exts f = some g := h
    unfold exts at h
    split at h
    · cases h
      refine extItoa_ok ⟨Tryd.f28, _, Tryd.func28, rfl, by kernel_rfl⟩ (fun n w h0 h1 hG => (Tryd.strconv_Itoa n h0 h1 w (Gl.tab_is gPow_is hG)).mono ?_) args objs r hr
      rintro e w' ⟨rfl, k, os, rfl⟩
      exact ⟨rfl, below_grow w k os⟩
    · cases h
      refine extJoin_ok ⟨Tryd.f36, _, Tryd.func36, rfl, by kernel_rfl⟩ (fun a c sep w => (Tryd.strings_Join_none a c sep w).mono ?_) (fun bk o c xs sep w q1 q2 q3 q4 q5 => Tryd.strings_Join bk o c xs sep w q1 q2 q3 q4 q5) args objs r hr
      rintro e w' ⟨rfl, rfl⟩
      exact ⟨rfl, Go.RowKit.Below.refl _ _⟩
    · cases h

theorem ksOk' : ksOk Tryd.prog ks ks = true := by kernel_rfl

end Go.Proofs.YthhgnkogjccceaaDoor
