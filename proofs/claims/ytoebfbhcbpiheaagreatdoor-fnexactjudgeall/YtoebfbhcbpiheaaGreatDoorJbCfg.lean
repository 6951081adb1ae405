/-
  The machine over the program of this seat.
-/
import Derived.Test.YtoebfbhcbpiheaaGreatDoorRows
import Derived.Test.YtoebfbhcbpiheaaGreatDoorVm5r
import Derived.Test.YtoebfbhcbpiheaaGreatDoorVm6
import Derived.Test.YtoebfbhcbpiheaaGreatDoorJbShelf
namespace Go.Proofs.YtoebfbhcbpiheaaGreatDoor
open Go.Vm

noncomputable def gPow : Nat := (Tryz.prog.globalNamed "internal/strconv.uint64pow10").getD 0

theorem gPow_is : Tryz.prog.globalNamed "internal/strconv.uint64pow10" = some gPow := by kernel_rfl

/-- What is told of the library's variables. -/
noncomputable def GG : Gl := (Gl.and (Gl.num .i64 0) (Gl.and (Gl.tab .u64 Lib.pow10Tab gPow) (Gl.and (Gl.err 2) (Gl.err 3))))

def exts (f : Nat) : Option (List V → List Vm.Obj → Option (V × List Vm.Obj × List Vm.Obj)) := match f with
  | 224 => some extSplit
  | 194 => some extItoa
  | 186 => some extIndexByte
  | 243 => some extAtoi
  | _ => none

def ks : List (TypeId × Kind) := [(22, .term), (25, .int), (33, .term), (34, .policy), (35, .host), (36, .letter), (37, .call), (38, .talk), (43, .policy), (44, .host), (45, .letter), (46, .call), (47, .talk), (53, .str), (125, .note), (180, .byte)]

def lhs (f r : Nat) : LoopH := match f, r with
  | 17, 4 => ⟨⟨[1, 2, 3], [.own 1], []⟩, ⟨[1, 2], [.own 1], []⟩, [(1, .bx (.own 1) 0), (2, .bool)], [(.own 1, .recd (.world))], [0]⟩
  | 17, 9 => ⟨⟨[1, 2, 4], [.own 1], []⟩, ⟨[1, 2], [.own 1], []⟩, [(1, .bx (.own 1) 0), (2, .bool)], [(.own 1, .recd (.world))], [2]⟩
  | 17, 14 => ⟨⟨[1, 2, 5], [.own 1], []⟩, ⟨[1, 2], [.own 1], []⟩, [(1, .bx (.own 1) 0), (2, .bool)], [(.own 1, .recd (.world))], [4]⟩
  | 21, 4 => ⟨⟨[1, 2, 3], [.own 1], []⟩, ⟨[2], [], []⟩, [(2, .bool)], [], [0]⟩
  | 23, 4 => ⟨⟨[1, 2, 3], [.own 1], []⟩, ⟨[2], [], []⟩, [(2, .bool)], [], [0]⟩
  | 25, 4 => ⟨⟨[1, 2, 3], [.own 1], []⟩, ⟨[2], [], []⟩, [(2, .bool)], [], [0]⟩
  | 27, 5 => ⟨⟨[0, 1, 4, 5], [], []⟩, ⟨[1, 4], [], []⟩, [(1, .int), (4, .int)], [], [0]⟩
  | 29, 3 => ⟨⟨[0, 3, 4], [], [(.slot 3, .own 3)]⟩, ⟨[3], [], [(.slot 3, .own 3)]⟩, [(3, .row (.own 3) .str)], [(.own 3, .row true .str)], [0]⟩
  | 31, 4 => ⟨⟨[0, 1, 4, 5], [], []⟩, ⟨[4], [], []⟩, [(4, .bool)], [], [0]⟩
  | 35, 8 => ⟨⟨[1, 2, 5, 6], [.own 1], []⟩, ⟨[2], [], []⟩, [(2, .bool)], [], [0]⟩
  | 42, 2 => ⟨⟨[1, 2, 3], [.own 1], []⟩, ⟨[1, 2], [.own 1], []⟩, [(1, .bx (.own 1) 0), (2, .bool)], [(.own 1, .recd (.server))], [0]⟩
  | 48, 4 => ⟨⟨[0, 1, 4, 5], [], []⟩, ⟨[4], [], []⟩, [(4, .bool)], [], [0]⟩
  | 53, 5 => ⟨⟨[0, 1, 4, 5], [], []⟩, ⟨[1, 4], [], []⟩, [(1, .int), (4, .int)], [], [0]⟩
  | 54, 5 => ⟨⟨[0, 1, 4, 5], [], []⟩, ⟨[1, 4], [], []⟩, [(1, .int), (4, .int)], [], [0]⟩
  | 55, 5 => ⟨⟨[0, 1, 4, 5], [], []⟩, ⟨[1, 4], [], []⟩, [(1, .int), (4, .int)], [], [0]⟩
  | 56, 5 => ⟨⟨[0, 1, 4, 5], [], []⟩, ⟨[1, 4], [], []⟩, [(1, .int), (4, .int)], [], [0]⟩
  | 57, 5 => ⟨⟨[0, 1, 4, 5], [], []⟩, ⟨[1, 4], [], []⟩, [(1, .int), (4, .int)], [], [0]⟩
  | 58, 5 => ⟨⟨[0, 1, 4, 5], [], []⟩, ⟨[1, 4], [], []⟩, [(1, .int), (4, .int)], [], [0]⟩
  | 61, 2 => ⟨⟨[0, 2, 3], [], []⟩, ⟨[0, 2], [], []⟩, [(0, .sl .policy), (2, .bool)], [], [0]⟩
  | 62, 2 => ⟨⟨[0, 2, 3], [], []⟩, ⟨[0, 2], [], []⟩, [(0, .sl .host), (2, .bool)], [], [0]⟩
  | 62, 7 => ⟨⟨[0, 2, 3, 4], [], []⟩, ⟨[0, 2, 3], [], []⟩, [(0, .sl .host), (2, .bool), (3, .int)], [], [2]⟩
  | 65, 2 => ⟨⟨[1, 2, 3], [.own 1], []⟩, ⟨[1, 2], [.own 1], []⟩, [(1, .bx (.own 1) 0), (2, .bool)], [(.own 1, .recd (.world))], [0]⟩
  | 65, 7 => ⟨⟨[1, 2, 4], [.own 1], []⟩, ⟨[1, 2], [.own 1], []⟩, [(1, .bx (.own 1) 0), (2, .bool)], [(.own 1, .recd (.world))], [2]⟩
  | 66, 3 => ⟨⟨[0, 3, 4], [], [(.slot 3, .own 3)]⟩, ⟨[3], [], [(.slot 3, .own 3)]⟩, [(3, .row (.own 3) .term)], [(.own 3, .row true .term)], [0]⟩
  | 67, 3 => ⟨⟨[0, 3, 4], [], [(.slot 3, .own 3)]⟩, ⟨[3], [], [(.slot 3, .own 3)]⟩, [(3, .row (.own 3) .policy)], [(.own 3, .row true .policy)], [0]⟩
  | 68, 3 => ⟨⟨[0, 3, 4], [], [(.slot 3, .own 3)]⟩, ⟨[3], [], [(.slot 3, .own 3)]⟩, [(3, .row (.own 3) .host)], [(.own 3, .row true .host)], [0]⟩
  | 69, 3 => ⟨⟨[0, 3, 4], [], [(.slot 3, .own 3)]⟩, ⟨[3], [], [(.slot 3, .own 3)]⟩, [(3, .row (.own 3) .letter)], [(.own 3, .row true .letter)], [0]⟩
  | 70, 3 => ⟨⟨[0, 3, 4], [], [(.slot 3, .own 3)]⟩, ⟨[3], [], [(.slot 3, .own 3)]⟩, [(3, .row (.own 3) .call)], [(.own 3, .row true .call)], [0]⟩
  | 71, 3 => ⟨⟨[0, 3, 4], [], [(.slot 3, .own 3)]⟩, ⟨[3], [], [(.slot 3, .own 3)]⟩, [(3, .row (.own 3) .talk)], [(.own 3, .row true .talk)], [0]⟩
  | 72, 3 => ⟨⟨[0, 3, 4], [], [(.slot 3, .own 3)]⟩, ⟨[3], [], [(.slot 3, .own 3)]⟩, [(3, .row (.own 3) .int)], [(.own 3, .row true .int)], [0]⟩
  | 78, 2 => ⟨⟨[0, 2, 5, 6, 7], [], []⟩, ⟨[0, 2], [], []⟩, [(0, .sl .policy), (2, .bool)], [], [0]⟩
  | 79, 2 => ⟨⟨[0, 2, 5, 6, 7], [], []⟩, ⟨[0, 2], [], []⟩, [(0, .sl .host), (2, .bool)], [], [0]⟩
  | 83, 2 => ⟨⟨[1, 2, 8, 9, 10], [.own 1], []⟩, ⟨[1, 2], [.own 1], []⟩, [(1, .bx (.own 1) 0), (2, .bool)], [(.own 1, .recd (.world))], [0]⟩
  | 83, 8 => ⟨⟨[1, 2, 30, 31, 32], [.own 1], []⟩, ⟨[1, 2], [.own 1], []⟩, [(1, .bx (.own 1) 0), (2, .bool)], [(.own 1, .recd (.world))], [2]⟩
  | 84, 2 => ⟨⟨[0, 2, 5, 6, 7], [], []⟩, ⟨[2], [], []⟩, [(2, .bool)], [], [0]⟩
  | 85, 4 => ⟨⟨[0, 1, 4, 5], [], []⟩, ⟨[4], [], []⟩, [(4, .bool)], [], [0]⟩
  | 86, 4 => ⟨⟨[0, 1, 4, 5], [], []⟩, ⟨[4], [], []⟩, [(4, .bool)], [], [0]⟩
  | 87, 4 => ⟨⟨[0, 1, 4, 5], [], []⟩, ⟨[4], [], []⟩, [(4, .bool)], [], [0]⟩
  | 88, 4 => ⟨⟨[0, 1, 4, 5], [], []⟩, ⟨[4], [], []⟩, [(4, .bool)], [], [0]⟩
  | 89, 4 => ⟨⟨[0, 1, 4, 5], [], []⟩, ⟨[4], [], []⟩, [(4, .bool)], [], [0]⟩
  | 90, 4 => ⟨⟨[0, 1, 4, 5], [], []⟩, ⟨[4], [], []⟩, [(4, .bool)], [], [0]⟩
  | 93, 2 => ⟨⟨[1, 2, 4, 5], [.own 2], []⟩, ⟨[4], [], []⟩, [(4, .bool)], [], [0]⟩
  | 98, 2 => ⟨⟨[0, 1, 4, 5], [], []⟩, ⟨[4], [], []⟩, [(4, .bool)], [], [0]⟩
  | 118, 4 => ⟨⟨[0, 4, 5, 6], [], [(.slot 4, .own 4)]⟩, ⟨[4, 5], [], [(.slot 4, .own 4)]⟩, [(4, .row (.own 4) .note), (5, .int)], [(.own 4, .row true .note)], [0]⟩
  | 119, 3 => ⟨⟨[0, 3, 4], [], [(.slot 3, .own 3)]⟩, ⟨[3], [], [(.slot 3, .own 3)]⟩, [(3, .row (.own 3) .letter)], [(.own 3, .row true .letter)], [0]⟩
  | 120, 3 => ⟨⟨[0, 2, 3, 4, 5], [], [(.slot 2, .own 2), (.slot 4, .own 4)]⟩, ⟨[2, 3], [], [(.slot 2, .own 2)]⟩, [(2, .row (.own 2) .note), (3, .int)], [(.own 2, .row true .note)], []⟩
  | 121, 4 => ⟨⟨[0, 1, 4, 12, 13], [], []⟩, ⟨[4], [], []⟩, [(4, .bool)], [], [0]⟩
  | 122, 3 => ⟨⟨[3, 7, 8, 9], [], [(.slot 3, .own 3)]⟩, ⟨[3], [], [(.slot 3, .own 3)]⟩, [(3, .row (.own 3) .letter)], [(.own 3, .row true .letter)], [0]⟩
  | 129, 4 => ⟨⟨[2, 3, 4, 5], [.own 2, .own 3], []⟩, ⟨[4], [], []⟩, [(4, .bool)], [], [0]⟩
  | 148, 2 => ⟨⟨[1, 2, 3], [.own 1], []⟩, ⟨[1, 2], [.own 1], []⟩, [(1, .bx (.own 1) 0), (2, .bool)], [(.own 1, .recd (.el .policy))], [0]⟩
  | 149, 3 => ⟨⟨[1, 3, 4], [.own 1], []⟩, ⟨[3], [], []⟩, [(3, .int)], [], [0]⟩
  | 150, 4 => ⟨⟨[1, 2, 3], [.own 1], []⟩, ⟨[1, 2], [.own 1], []⟩, [(1, .bx (.own 1) 0), (2, .bool)], [(.own 1, .recd (.el .term))], [0]⟩
  | 151, 2 => ⟨⟨[0, 2, 3], [], []⟩, ⟨[0, 2], [], []⟩, [(0, .str), (2, .bool)], [], [0]⟩
  | 159, 2 => ⟨⟨[0, 1, 4, 7, 8], [], []⟩, ⟨[4], [], []⟩, [(4, .int)], [], [0]⟩
  | 160, 3 => ⟨⟨[3, 7, 8, 9], [], []⟩, ⟨[3], [], []⟩, [(3, .int)], [], [0]⟩
  | 165, 2 => ⟨⟨[0, 1, 4, 7, 8], [], []⟩, ⟨[4], [], []⟩, [(4, .int)], [], [0]⟩
  | 166, 2 => ⟨⟨[0, 2, 5, 6], [], []⟩, ⟨[0, 2], [], []⟩, [(0, .str), (2, .bool)], [], [0]⟩
  | 173, 2 => ⟨⟨[0, 1, 4, 7, 8], [], []⟩, ⟨[4], [], []⟩, [(4, .int)], [], [0]⟩
  | 174, 2 => ⟨⟨[0, 1, 4, 7, 8], [], []⟩, ⟨[4], [], []⟩, [(4, .int)], [], [0]⟩
  | 175, 2 => ⟨⟨[0, 1, 4, 7, 8], [], []⟩, ⟨[4], [], []⟩, [(4, .int)], [], [0]⟩
  | 176, 9 => ⟨⟨[0, 3, 4, 7], [.own 3], []⟩, ⟨[4], [], []⟩, [(4, .bool)], [], [0]⟩
  | 182, 7 => ⟨⟨[0, 2, 4, 5, 6, 7], [.own 2, .own 6], []⟩, ⟨[0, 2, 4, 6], [.own 2, .own 6], []⟩, [(0, .str), (2, .bx (.own 2) 0), (4, .sl .str), (6, .bx (.own 6) 0)], [(.own 2, .recd (.el .note)), (.own 6, .recd (.el .note))], [0]⟩
  | 192, 5 => ⟨⟨[0, 3, 4], [], []⟩, ⟨[3, 4], [], []⟩, [(3, .bool), (4, .str)], [], [0]⟩
  | 193, 3 => ⟨⟨[0, 1, 4, 5, 6], [], []⟩, ⟨[0, 1, 4, 5], [], []⟩, [(0, .str), (1, .int), (4, .bool), (5, .sl .str)], [], [0]⟩
  | 198, 2 => ⟨⟨[0, 1, 4, 7, 8], [], []⟩, ⟨[4], [], []⟩, [(4, .int)], [], [0]⟩
  | 203, 10 => ⟨⟨[2, 3, 4, 5], [.own 2, .own 3], []⟩, ⟨[4], [], []⟩, [(4, .bool)], [], [1]⟩
  | 208, 10 => ⟨⟨[3, 4, 56, 57, 58], [.own 3], []⟩, ⟨[4], [], []⟩, [(4, .bool)], [], [1]⟩
  | 212, 2 => ⟨⟨[0, 1, 4, 7, 8], [], []⟩, ⟨[4], [], []⟩, [(4, .int)], [], [0]⟩
  | 214, 2 => ⟨⟨[0, 3, 4, 5], [.own 3], []⟩, ⟨[4], [], []⟩, [(4, .bool)], [], [0]⟩
  | 219, 4 => ⟨⟨[0, 3, 4, 5], [], [(.slot 3, .own 3)]⟩, ⟨[3], [], [(.slot 3, .own 3)]⟩, [(3, .row (.own 3) .str)], [(.own 3, .row true .str)], [0]⟩
  | 220, 3 => ⟨⟨[0, 3, 4], [], []⟩, ⟨[3], [], []⟩, [(3, .int)], [], [0]⟩
  | 228, 4 => ⟨⟨[0, 3, 4, 5], [], [(.slot 3, .own 3)]⟩, ⟨[3], [], [(.slot 3, .own 3)]⟩, [(3, .row (.own 3) .str)], [(.own 3, .row true .str)], [0]⟩
  | 229, 2 => ⟨⟨[0, 2, 3], [], []⟩, ⟨[0, 2], [], []⟩, [(0, .str), (2, .bool)], [], [0]⟩
  | 231, 3 => ⟨⟨[3, 6, 7, 8], [], [(.slot 3, .own 3)]⟩, ⟨[3], [], [(.slot 3, .own 3)]⟩, [(3, .row (.own 3) .term)], [(.own 3, .row true .term)], [0]⟩
  | 234, 2 => ⟨⟨[0, 2, 6, 7], [], []⟩, ⟨[0, 2], [], []⟩, [(0, .str), (2, .bool)], [], [0]⟩
  | 235, 4 => ⟨⟨[1, 2, 6, 15, 16, 17], [], []⟩, ⟨[6], [], []⟩, [(6, .bool)], [], [0]⟩
  | 237, 2 => ⟨⟨[0, 1, 4, 7, 8], [], []⟩, ⟨[4], [], []⟩, [(4, .int)], [], [0]⟩
  | _, _ => ⟨⟨[], [], []⟩, ⟨[], [], []⟩, [], [], []⟩

def hms (_ b : Nat) : Vm.Mode := match b with
  | 13 => .pure
  | 16 => .pure
  | 17 => .pure
  | 18 => .pure
  | 19 => .pure
  | 20 => .pure
  | 21 => .pure
  | 22 => .pure
  | 23 => .pure
  | 24 => .pure
  | 25 => .pure
  | 26 => .pure
  | 27 => .pure
  | 29 => .pure
  | 31 => .pure
  | 35 => .pure
  | 36 => .pure
  | 37 => .pure
  | 38 => .pure
  | 41 => .pure
  | 42 => .pure
  | 45 => .pure
  | 46 => .pure
  | 47 => .pure
  | 48 => .pure
  | 53 => .pure
  | 54 => .pure
  | 55 => .pure
  | 56 => .pure
  | 57 => .pure
  | 58 => .pure
  | 59 => .pure
  | 60 => .pure
  | 61 => .pure
  | 62 => .pure
  | 63 => .pure
  | 64 => .pure
  | 65 => .pure
  | 66 => .pure
  | 67 => .pure
  | 68 => .pure
  | 69 => .pure
  | 70 => .pure
  | 71 => .pure
  | 72 => .pure
  | 73 => .pure
  | 74 => .pure
  | 75 => .pure
  | 77 => .pure
  | 78 => .pure
  | 79 => .pure
  | 80 => .pure
  | 82 => .pure
  | 83 => .pure
  | 84 => .pure
  | 85 => .pure
  | 86 => .pure
  | 87 => .pure
  | 88 => .pure
  | 89 => .pure
  | 90 => .pure
  | 91 => .pure
  | 93 => .pure
  | 95 => .pure
  | 97 => .pure
  | 98 => .pure
  | 99 => .pure
  | 101 => .pure
  | 118 => .pure
  | 119 => .pure
  | 120 => .pure
  | 121 => .pure
  | 122 => .pure
  | 127 => .pure
  | 129 => .pure
  | 130 => .pure
  | 136 => .pure
  | 137 => .pure
  | 138 => .pure
  | 139 => .pure
  | 140 => .pure
  | 142 => .pure
  | 143 => .pure
  | 144 => .pure
  | 145 => .pure
  | 146 => .pure
  | 147 => .pure
  | 148 => .pure
  | 149 => .pure
  | 150 => .pure
  | 151 => .pure
  | 152 => .pure
  | 153 => .pure
  | 154 => .pure
  | 155 => .pure
  | 156 => .pure
  | 157 => .pure
  | 158 => .pure
  | 159 => .pure
  | 160 => .pure
  | 161 => .pure
  | 162 => .pure
  | 163 => .pure
  | 165 => .pure
  | 166 => .pure
  | 167 => .pure
  | 168 => .pure
  | 169 => .pure
  | 170 => .pure
  | 171 => .pure
  | 172 => .pure
  | 173 => .pure
  | 174 => .pure
  | 175 => .pure
  | 176 => .pure
  | 177 => .pure
  | 182 => .pure
  | 183 => .pure
  | 184 => .pure
  | 185 => .pure
  | 186 => .pure
  | 187 => .pure
  | 188 => .pure
  | 189 => .pure
  | 190 => .pure
  | 192 => .pure
  | 193 => .pure
  | 194 => .pure
  | 195 => .pure
  | 196 => .pure
  | 197 => .pure
  | 198 => .pure
  | 199 => .pure
  | 200 => .pure
  | 201 => .pure
  | 202 => .pure
  | 203 => .pure
  | 204 => .pure
  | 205 => .pure
  | 206 => .pure
  | 208 => .pure
  | 209 => .pure
  | 211 => .pure
  | 212 => .pure
  | 213 => .pure
  | 214 => .pure
  | 215 => .pure
  | 216 => .pure
  | 217 => .pure
  | 219 => .pure
  | 220 => .pure
  | 221 => .pure
  | 222 => .pure
  | 224 => .pure
  | 225 => .pure
  | 226 => .pure
  | 227 => .pure
  | 228 => .pure
  | 229 => .pure
  | 231 => .pure
  | 232 => .pure
  | 234 => .pure
  | 235 => .pure
  | 236 => .pure
  | 237 => .pure
  | 238 => .pure
  | 242 => .pure
  | 243 => .pure
  | 245 => .pure
  | 249 => .pure
  | 256 => .pure
  | _ => .inline

def shs (t : Nat) : Sh := match t with
  | 0 => .tup []
  | 3 => .int
  | 4 => .bool
  | 5 => .u8
  | 6 => .u8
  | 9 => .str
  | 10 => .str
  | 11 => .str
  | 22 => .sl .term
  | 24 => .el .term
  | 25 => .sl .int
  | 27 => .server
  | 28 => .tup [.server, .bool]
  | 33 => .sl .term
  | 34 => .sl .policy
  | 35 => .sl .host
  | 36 => .sl .letter
  | 37 => .sl .call
  | 38 => .sl .talk
  | 40 => .world
  | 43 => .sl .policy
  | 44 => .sl .host
  | 45 => .sl .letter
  | 46 => .sl .call
  | 47 => .sl .talk
  | 49 => .world
  | 53 => .sl .str
  | 55 => .tup [.world, .bool]
  | 65 => .cert
  | 83 => .el .letter
  | 102 => .client
  | 104 => .el .call
  | 110 => .el .talk
  | 116 => .el .host
  | 125 => .sl .note
  | 126 => .tup [.sl .note, .int]
  | 136 => .el .term
  | 139 => .el .policy
  | 141 => .el .host
  | 143 => .el .letter
  | 146 => .client
  | 148 => .el .call
  | 151 => .server
  | 153 => .el .talk
  | 155 => .el .policy
  | 180 => .sl .byte
  | 182 => .el .note
  | 183 => .tup [.el .note, .bool]
  | 186 => .tup [.el .letter, .bool]
  | 209 => .tup [.str, .bool]
  | 213 => .err
  | 214 => .tup [.int, .err]
  | 225 => .tup [.sl .byte, .str]
  | 227 => .tup [.raw, .int]
  | 229 => .int
  | 230 => .tup [.raw, .err]
  | 241 => .tup [.raw, .err]
  | 252 => .tup [.raw, .raw]
  | 268 => .u8
  | 269 => .u8
  | _ => .raw

def dls (f r : Nat) : List Vm.Id := match f, r with
  | 176, 6 => [.own 5, .own 6]
  | 177, 6 => [.own 5, .own 6]
  | 188, 8 => [.own 3]
  | _, _ => []

noncomputable def cfg : Cfg where
  tb := tbOf Tryz.prog ks
  hm := hms
  sh := shs
  eqT := eqOf Tryz.prog [83, 182, 116]
  lh := lhs
  dl := dls
  ext := exts

noncomputable abbrev RN := rn Tryz.prog cfg

set_option maxRecDepth 100000 in
theorem progOK : ProgOK GG Tryz.prog cfg where
  wide := by kernel_rfl
  tab := tabOK_of (ks := ks) (es := [83, 182, 116]) rfl rfl
  nm := names_of (by kernel_rfl)
  ext := fun f g args objs r h hr => by
    have h : exts f = some g := h
    unfold exts at h
    split at h
    · cases h
      exact extSplit_ok (G := GG) (T := 9) ⟨Tryz.f224, _, Tryz.func224, rfl, by kernel_rfl⟩ (fun s sep w h0 h1 hG => by
        obtain ⟨m, hm⟩ := hG.1
        exact Tryz.strings_Split s sep m w h0 hm h1) args objs r hr
    · cases h
      refine extItoa_ok (G := GG) ⟨Tryz.f194, _, Tryz.func194, rfl, by kernel_rfl⟩ (fun n w h0 h1 hG => (Tryz.strconv_Itoa n h0 h1 w (Gl.tab_is gPow_is hG.2.1)).mono ?_) args objs r hr
      rintro e w' ⟨rfl, k, os, rfl⟩
      exact ⟨rfl, below_grow w k os⟩
    · cases h
      refine extIndexByte_ok (G := GG) ⟨Tryz.f186, _, Tryz.func186, rfl, by kernel_rfl⟩ (fun s c w => Tryz.strings_IndexByte s c w) args objs r hr
    · cases h
      exact extAtoi_ok (G := GG) ⟨Tryz.f243, _, Tryz.func243, rfl, by kernel_rfl⟩ (fun s v w hs h => Tryz.strconv_Atoi_ok s hs v h w) (fun s w hs h hG => by
        obtain ⟨ev, hv, hev⟩ := hG.2.2.1
        refine (Tryz.strconv_Atoi_syntax s hs h ev w hv hev).mono ?_
        rintro e w' ⟨N, rfl, _, _, hb⟩
        exact ⟨⟨_, _, rfl⟩, hb⟩) (fun s w hs h hG => by
        obtain ⟨ev, hv, hev⟩ := hG.2.2.2
        refine (Tryz.strconv_Atoi_range s hs h ev w hv hev).mono ?_
        rintro e w' ⟨N, rfl, _, _, hb⟩
        exact ⟨⟨_, _, rfl⟩, hb⟩) args objs r hr
    · cases h

theorem ksOk' : ksOk Tryz.prog ks ks = true := by kernel_rfl

end Go.Proofs.YtoebfbhcbpiheaaGreatDoor
