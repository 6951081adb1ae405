/-
  The machine's table of types, out of the program's own.
-/
import Derived.Test.YtgegmojoakkohaaGreatDoorVm5k
import Derived.Deep.Slices
import Derived.Carry
import Derived.OpenShut
import Derived.ChangeSame
import Derived.Handed
import Derived.JoinedCond
namespace Go.Vm
set_option linter.unusedVariables false
set_option linter.unusedSimpArgs false

def lookK (ks : List (TypeId × Kind)) (t : TypeId) : Option Kind :=
  match ks with
  | [] => none
  | (s, k) :: r => bif Nat.beq s t then some k else lookK r t

/-- What each cell of a type is: a slice of some kind, or none. -/
def flatK (P : Program) (ks : List (TypeId × Kind)) : Nat → TypeId → List (Option Kind)
  | 0, _ => []
  | n + 1, t => match P.underlying t with
    | some (.struct fs) => fs.toList.flatMap fun f => flatK P ks n f.type
    | some (.slice _) => [lookK ks t]
    | _ => [none]

def zeroC : Value → Option Kind → C
  | .bool b, _ => .f (.sc (.bool b))
  | .int k n, _ => .f (.sc (.int k n))
  | .string s, _ => .f (.sc (.string s))
  | .slice none 0 0, some k => .f (.sl true k [])
  | .nilIface, _ => .f (.sc .nilIface)
  | _, _ => .hole

def zeroCs : List Value → List (Option Kind) → List C
  | [], _ => []
  | v :: vs, [] => zeroC v none :: zeroCs vs []
  | v :: vs, k :: ks => zeroC v k :: zeroCs vs ks

def kinOk (P : Program) : TypeDesc → Option Kind → Bool
  | .slice e, some k => match P.info? e with
    | some x => match x.zero with
      | some z => Nat.beq x.size (szOf k) && zms z.cells.toList ((cellsOf k (zeroEl k)).map fun f => match f with | .sl _ q _ => .f (.sl true q []) | f => .f f) && Nat.blt 0 x.bytes && Nat.ble x.bytes 1000
      | none => false
    | none => false
  | _, _ => true

def fldOk (P : Program) : TypeDesc → Bool
  | .struct fs => fs.toList.all fun f => (P.info? f.type).isSome
  | _ => true

def kindD (ks : List (TypeId × Kind)) (t : TypeId) : TypeDesc → Option Kind
  | .slice _ => lookK ks t
  | _ => none

def tbOf (P : Program) (ks : List (TypeId × Kind)) (t : TypeId) : Option TI :=
  match P.underlying t with
  | some d => match P.info? t with
    | some x => match x.zero with
      | some z => bif zms z.cells.toList (zeroCs z.cells.toList (flatK P ks 6 t)) && kinOk P d (kindD ks t d) && fldOk P d then
          some ⟨d, x.size, x.bytes, z, zeroCs z.cells.toList (flatK P ks 6 t), kindD ks t d⟩ else none
      | none => none
    | none => none
  | none => none

def eqOf (P : Program) (es : List TypeId) (t : TypeId) : Bool := es.contains t && !(P.eqGuardType P.depth t) && !(P.stoodInHeld t)

theorem tbOf_some {P : Program} {ks : List (TypeId × Kind)} {t : TypeId} {i : TI} (h : tbOf P ks t = some i) :
    ∃ x, P.underlying t = some i.desc ∧ P.info? t = some x ∧ x.zero = some i.zv ∧ x.size = i.size ∧ x.bytes = i.bytes ∧ zms i.zv.cells.toList i.zero = true ∧ i.kind = kindD ks t i.desc ∧ kinOk P i.desc i.kind = true ∧ fldOk P i.desc = true := by
  unfold tbOf at h
  split at h
  · rename_i d hd
    split at h
    · rename_i x hx
      split at h
      · rename_i z hz
        cases hc : zms z.cells.toList (zeroCs z.cells.toList (flatK P ks 6 t)) && kinOk P d (kindD ks t d) && fldOk P d with
        | false => rw [hc] at h; cases h
        | true =>
          rw [hc] at h
          simp only [cond_true, Option.some.injEq] at h
          subst h
          simp only [Bool.and_eq_true] at hc
          exact ⟨x, hd, hx, hz, rfl, rfl, hc.1.1, rfl, hc.1.2, hc.2⟩
      · cases h
    · cases h
  · cases h

theorem tabOK_of {P : Program} {cfg : Cfg} {ks : List (TypeId × Kind)} {es : List TypeId} (htb : cfg.tb = tbOf P ks) (heq : cfg.eqT = eqOf P es) (hnat : ∀ g nt, cfg.nat g = some nt → NatOK P g nt := by intro g nt h; cases h) : TabOK P cfg := by
  refine ⟨?_, ?_, ?_, ?_, ?_, ?_, hnat⟩
  · intro t i h; rw [htb] at h; obtain ⟨x, h1, _⟩ := tbOf_some h; exact h1
  · intro t i h; rw [htb] at h; obtain ⟨x, h1, h2, h3, h4, h5, _⟩ := tbOf_some h; exact ⟨x, h2, h3, h4, h5⟩
  · intro t i h; rw [htb] at h; obtain ⟨x, h1, h2, h3, h4, h5, h6, _⟩ := tbOf_some h; exact h6
  · intro t i k e h hd hk
    rw [htb] at h
    obtain ⟨x, h1, h2, h3, h4, h5, h6, h7, h8, h9⟩ := tbOf_some h
    rw [hd, hk] at h8
    unfold kinOk at h8
    simp only at h8
    split at h8
    · rename_i y hy
      split at h8
      · rename_i z hz
        simp only [Bool.and_eq_true] at h8
        refine ⟨y, z, hy, hz, Nat.eq_of_beq_eq_true h8.1.1.1, h8.1.1.2, ?_, Nat.le_of_ble_eq_true h8.2⟩
        have := h8.1.2
        simp [Nat.blt] at this
        omega
      · cases h8
    · cases h8
  · intro t i fs h hd f hf
    rw [htb] at h
    obtain ⟨x, h1, h2, h3, h4, h5, h6, h7, h8, h9⟩ := tbOf_some h
    rw [hd] at h9
    unfold fldOk at h9
    rw [List.all_eq_true] at h9
    exact Option.isSome_iff_exists.1 (h9 f hf)
  · intro t h
    rw [heq] at h
    simp only [eqOf, Bool.and_eq_true, Bool.not_eq_true'] at h
    exact ⟨h.1.2, h.2⟩

def namesOk (P : Program) : Bool := P.funcs.all fun fn => !(fn.name == "runtime.NumGoroutine")

theorem names_of {P : Program} (h : namesOk P = true) : ∀ (f : FuncId) (fn : Func), P.funcs[f]? = some fn → (fn.name == "runtime.NumGoroutine") = false := by
  intro f fn hf
  unfold namesOk at h
  rw [Array.all_eq_true_iff_forall_mem] at h
  have := h fn (Array.mem_of_getElem? hf)
  simpa using this

end Go.Vm

namespace Go.Vm
variable {G : Gl}
set_option linter.unusedVariables false
set_option linter.unusedSimpArgs false

inductive Leaf where
  | int | u8 | str | bool
  | sl (k : Kind)
  deriving DecidableEq

def leavesOf : Kind → List Leaf
  | .int => [.int]
  | .byte => [.u8]
  | .str => [.str]
  | .term => [.int, .int, .str, .sl .term]
  | .policy => [.str, .int, .sl .str, .int]
  | .letter => [.str, .int, .int, .int, .int]
  | .note => [.int, .int, .str, .int, .int]
  | .host => [.str, .int, .bool]
  | .call => [.int, .int, .str, .bool, .int, .int, .int, .int, .str, .sl .term, .int, .int, .bool, .bool, .bool]
  | .talk => [.int, .int, .str, .int, .int, .int, .int, .str, .sl .term, .int, .int, .str, .sl .term, .int, .int, .bool, .sl .int]
  | .deed => [.int, .int, .str, .int, .int, .str, .sl .term]
  | .terms => [.sl .term]
  | .world => [.int, .int, .sl .term, .sl .policy, .sl .host, .sl .letter, .str, .int, .sl .call, .sl .talk, .sl .int]

def Fit : Leaf → F → Prop
  | .int, f => ∃ n : Int, f = .sc (.int .i64 n)
  | .u8, f => ∃ b : UInt8, f = .sc (.int .u8 b.toNat)
  | .str, f => ∃ s : ByteArray, f = .sc (.string s)
  | .bool, f => ∃ b : Bool, f = .sc (.bool b)
  | .sl k, f => ∃ (t : Bool) (l : List (El k)), f = .sl t k l

def Fits : List Leaf → List F → Prop
  | [], [] => True
  | a :: l, f :: fs => Fit a f ∧ Fits l fs
  | _, _ => False

theorem Fits.cons {a : Leaf} {l : List Leaf} {fs : List F} (h : Fits (a :: l) fs) : ∃ f r, fs = f :: r ∧ Fit a f ∧ Fits l r := by
  cases fs with
  | nil => exact h.elim
  | cons f r => exact ⟨f, r, rfl, h.1, h.2⟩

theorem Fits.nil {fs : List F} (h : Fits [] fs) : fs = [] := by
  cases fs with
  | nil => rfl
  | cons f r => exact h.elim

theorem Fits.append : ∀ {a b : List Leaf} {fs gs : List F}, Fits a fs → Fits b gs → Fits (a ++ b) (fs ++ gs)
  | [], b, [], gs, _, h2 => h2
  | [], b, _ :: _, gs, h1, _ => h1.elim
  | _ :: _, b, [], gs, h1, _ => h1.elim
  | x :: a, b, f :: fs, gs, h1, h2 => ⟨h1.1, Fits.append h1.2 h2⟩

theorem Fits.len : ∀ {a : List Leaf} {fs : List F}, Fits a fs → fs.length = a.length
  | [], [], _ => rfl
  | [], _ :: _, h1 => h1.elim
  | _ :: _, [], h1 => h1.elim
  | x :: a, f :: fs, h1 => by simp [Fits.len h1.2]

theorem ofFits {k : Kind} {fs : List F} (h : Fits (leavesOf k) fs) : ∃ x, ofCells k fs = some x := by
  cases k with
  | int =>
      obtain ⟨f0, r0, rfl, q0, h⟩ := h.cons
      obtain rfl := h.nil
      obtain ⟨v0, rfl⟩ := q0
      exact ⟨_, rfl⟩
  | byte =>
      obtain ⟨f0, r0, rfl, q0, h⟩ := h.cons
      obtain rfl := h.nil
      obtain ⟨v0, rfl⟩ := q0
      exact ⟨UInt8.ofNat (v0.toNat : Int).toNat, by simp only [ofCells]; rw [if_pos ⟨by omega, by have := v0.toNat_lt; omega⟩]⟩
  | str =>
      obtain ⟨f0, r0, rfl, q0, h⟩ := h.cons
      obtain rfl := h.nil
      obtain ⟨v0, rfl⟩ := q0
      exact ⟨_, rfl⟩
  | term =>
      obtain ⟨f0, r0, rfl, q0, h⟩ := h.cons
      obtain ⟨f1, r1, rfl, q1, h⟩ := h.cons
      obtain ⟨f2, r2, rfl, q2, h⟩ := h.cons
      obtain ⟨f3, r3, rfl, q3, h⟩ := h.cons
      obtain rfl := h.nil
      obtain ⟨v0, rfl⟩ := q0
      obtain ⟨v1, rfl⟩ := q1
      obtain ⟨v2, rfl⟩ := q2
      obtain ⟨t3, v3, rfl⟩ := q3
      exact ⟨_, rfl⟩
  | policy =>
      obtain ⟨f0, r0, rfl, q0, h⟩ := h.cons
      obtain ⟨f1, r1, rfl, q1, h⟩ := h.cons
      obtain ⟨f2, r2, rfl, q2, h⟩ := h.cons
      obtain ⟨f3, r3, rfl, q3, h⟩ := h.cons
      obtain rfl := h.nil
      obtain ⟨v0, rfl⟩ := q0
      obtain ⟨v1, rfl⟩ := q1
      obtain ⟨t2, v2, rfl⟩ := q2
      obtain ⟨v3, rfl⟩ := q3
      exact ⟨_, rfl⟩
  | letter =>
      obtain ⟨f0, r0, rfl, q0, h⟩ := h.cons
      obtain ⟨f1, r1, rfl, q1, h⟩ := h.cons
      obtain ⟨f2, r2, rfl, q2, h⟩ := h.cons
      obtain ⟨f3, r3, rfl, q3, h⟩ := h.cons
      obtain ⟨f4, r4, rfl, q4, h⟩ := h.cons
      obtain rfl := h.nil
      obtain ⟨v0, rfl⟩ := q0
      obtain ⟨v1, rfl⟩ := q1
      obtain ⟨v2, rfl⟩ := q2
      obtain ⟨v3, rfl⟩ := q3
      obtain ⟨v4, rfl⟩ := q4
      exact ⟨_, rfl⟩
  | note =>
      obtain ⟨f0, r0, rfl, q0, h⟩ := h.cons
      obtain ⟨f1, r1, rfl, q1, h⟩ := h.cons
      obtain ⟨f2, r2, rfl, q2, h⟩ := h.cons
      obtain ⟨f3, r3, rfl, q3, h⟩ := h.cons
      obtain ⟨f4, r4, rfl, q4, h⟩ := h.cons
      obtain rfl := h.nil
      obtain ⟨v0, rfl⟩ := q0
      obtain ⟨v1, rfl⟩ := q1
      obtain ⟨v2, rfl⟩ := q2
      obtain ⟨v3, rfl⟩ := q3
      obtain ⟨v4, rfl⟩ := q4
      exact ⟨_, rfl⟩
  | host =>
      obtain ⟨f0, r0, rfl, q0, h⟩ := h.cons
      obtain ⟨f1, r1, rfl, q1, h⟩ := h.cons
      obtain ⟨f2, r2, rfl, q2, h⟩ := h.cons
      obtain rfl := h.nil
      obtain ⟨v0, rfl⟩ := q0
      obtain ⟨v1, rfl⟩ := q1
      obtain ⟨v2, rfl⟩ := q2
      exact ⟨_, rfl⟩
  | call =>
      obtain ⟨f0, r0, rfl, q0, h⟩ := h.cons
      obtain ⟨f1, r1, rfl, q1, h⟩ := h.cons
      obtain ⟨f2, r2, rfl, q2, h⟩ := h.cons
      obtain ⟨f3, r3, rfl, q3, h⟩ := h.cons
      obtain ⟨f4, r4, rfl, q4, h⟩ := h.cons
      obtain ⟨f5, r5, rfl, q5, h⟩ := h.cons
      obtain ⟨f6, r6, rfl, q6, h⟩ := h.cons
      obtain ⟨f7, r7, rfl, q7, h⟩ := h.cons
      obtain ⟨f8, r8, rfl, q8, h⟩ := h.cons
      obtain ⟨f9, r9, rfl, q9, h⟩ := h.cons
      obtain ⟨f10, r10, rfl, q10, h⟩ := h.cons
      obtain ⟨f11, r11, rfl, q11, h⟩ := h.cons
      obtain ⟨f12, r12, rfl, q12, h⟩ := h.cons
      obtain ⟨f13, r13, rfl, q13, h⟩ := h.cons
      obtain ⟨f14, r14, rfl, q14, h⟩ := h.cons
      obtain rfl := h.nil
      obtain ⟨v0, rfl⟩ := q0
      obtain ⟨v1, rfl⟩ := q1
      obtain ⟨v2, rfl⟩ := q2
      obtain ⟨v3, rfl⟩ := q3
      obtain ⟨v4, rfl⟩ := q4
      obtain ⟨v5, rfl⟩ := q5
      obtain ⟨v6, rfl⟩ := q6
      obtain ⟨v7, rfl⟩ := q7
      obtain ⟨v8, rfl⟩ := q8
      obtain ⟨t9, v9, rfl⟩ := q9
      obtain ⟨v10, rfl⟩ := q10
      obtain ⟨v11, rfl⟩ := q11
      obtain ⟨v12, rfl⟩ := q12
      obtain ⟨v13, rfl⟩ := q13
      obtain ⟨v14, rfl⟩ := q14
      exact ⟨_, rfl⟩
  | talk =>
      obtain ⟨f0, r0, rfl, q0, h⟩ := h.cons
      obtain ⟨f1, r1, rfl, q1, h⟩ := h.cons
      obtain ⟨f2, r2, rfl, q2, h⟩ := h.cons
      obtain ⟨f3, r3, rfl, q3, h⟩ := h.cons
      obtain ⟨f4, r4, rfl, q4, h⟩ := h.cons
      obtain ⟨f5, r5, rfl, q5, h⟩ := h.cons
      obtain ⟨f6, r6, rfl, q6, h⟩ := h.cons
      obtain ⟨f7, r7, rfl, q7, h⟩ := h.cons
      obtain ⟨f8, r8, rfl, q8, h⟩ := h.cons
      obtain ⟨f9, r9, rfl, q9, h⟩ := h.cons
      obtain ⟨f10, r10, rfl, q10, h⟩ := h.cons
      obtain ⟨f11, r11, rfl, q11, h⟩ := h.cons
      obtain ⟨f12, r12, rfl, q12, h⟩ := h.cons
      obtain ⟨f13, r13, rfl, q13, h⟩ := h.cons
      obtain ⟨f14, r14, rfl, q14, h⟩ := h.cons
      obtain ⟨f15, r15, rfl, q15, h⟩ := h.cons
      obtain ⟨f16, r16, rfl, q16, h⟩ := h.cons
      obtain rfl := h.nil
      obtain ⟨v0, rfl⟩ := q0
      obtain ⟨v1, rfl⟩ := q1
      obtain ⟨v2, rfl⟩ := q2
      obtain ⟨v3, rfl⟩ := q3
      obtain ⟨v4, rfl⟩ := q4
      obtain ⟨v5, rfl⟩ := q5
      obtain ⟨v6, rfl⟩ := q6
      obtain ⟨v7, rfl⟩ := q7
      obtain ⟨t8, v8, rfl⟩ := q8
      obtain ⟨v9, rfl⟩ := q9
      obtain ⟨v10, rfl⟩ := q10
      obtain ⟨v11, rfl⟩ := q11
      obtain ⟨t12, v12, rfl⟩ := q12
      obtain ⟨v13, rfl⟩ := q13
      obtain ⟨v14, rfl⟩ := q14
      obtain ⟨v15, rfl⟩ := q15
      obtain ⟨t16, v16, rfl⟩ := q16
      exact ⟨_, rfl⟩
  | deed =>
      obtain ⟨f0, r0, rfl, q0, h⟩ := h.cons
      obtain ⟨f1, r1, rfl, q1, h⟩ := h.cons
      obtain ⟨f2, r2, rfl, q2, h⟩ := h.cons
      obtain ⟨f3, r3, rfl, q3, h⟩ := h.cons
      obtain ⟨f4, r4, rfl, q4, h⟩ := h.cons
      obtain ⟨f5, r5, rfl, q5, h⟩ := h.cons
      obtain ⟨f6, r6, rfl, q6, h⟩ := h.cons
      obtain rfl := h.nil
      obtain ⟨v0, rfl⟩ := q0
      obtain ⟨v1, rfl⟩ := q1
      obtain ⟨v2, rfl⟩ := q2
      obtain ⟨v3, rfl⟩ := q3
      obtain ⟨v4, rfl⟩ := q4
      obtain ⟨v5, rfl⟩ := q5
      obtain ⟨t6, v6, rfl⟩ := q6
      exact ⟨_, rfl⟩
  | terms =>
      obtain ⟨f0, r0, rfl, q0, h⟩ := h.cons
      obtain rfl := h.nil
      obtain ⟨t0, v0, rfl⟩ := q0
      exact ⟨_, rfl⟩
  | world =>
      obtain ⟨f0, r0, rfl, q0, h⟩ := h.cons
      obtain ⟨f1, r1, rfl, q1, h⟩ := h.cons
      obtain ⟨f2, r2, rfl, q2, h⟩ := h.cons
      obtain ⟨f3, r3, rfl, q3, h⟩ := h.cons
      obtain ⟨f4, r4, rfl, q4, h⟩ := h.cons
      obtain ⟨f5, r5, rfl, q5, h⟩ := h.cons
      obtain ⟨f6, r6, rfl, q6, h⟩ := h.cons
      obtain ⟨f7, r7, rfl, q7, h⟩ := h.cons
      obtain ⟨f8, r8, rfl, q8, h⟩ := h.cons
      obtain ⟨f9, r9, rfl, q9, h⟩ := h.cons
      obtain ⟨f10, r10, rfl, q10, h⟩ := h.cons
      obtain rfl := h.nil
      obtain ⟨v0, rfl⟩ := q0
      obtain ⟨v1, rfl⟩ := q1
      obtain ⟨t2, v2, rfl⟩ := q2
      obtain ⟨t3, v3, rfl⟩ := q3
      obtain ⟨t4, v4, rfl⟩ := q4
      obtain ⟨t5, v5, rfl⟩ := q5
      obtain ⟨v6, rfl⟩ := q6
      obtain ⟨v7, rfl⟩ := q7
      obtain ⟨t8, v8, rfl⟩ := q8
      obtain ⟨t9, v9, rfl⟩ := q9
      obtain ⟨t10, v10, rfl⟩ := q10
      exact ⟨_, rfl⟩

/-- A type's leaves: what its cells are, one behind the other. -/
def flatFs (P : Program) (g : TypeId → Option (List Leaf)) : List Field → Nat → Option (List Leaf)
  | [], _ => some []
  | f :: r, off => bif Nat.beq f.offset off then (g f.type).bind fun l => bif Nat.beq (P.cellsOf f.type) l.length then (flatFs P g r (off + l.length)).bind fun q => some (l ++ q) else none else none

def flatTy (P : Program) (ks : List (TypeId × Kind)) : Nat → TypeId → Option (List Leaf)
  | 0, _ => none
  | n + 1, t => match P.underlying t with
    | some (.int .i64) => some [.int]
    | some (.int .u8) => some [.u8]
    | some .bool => some [.bool]
    | some .string => some [.str]
    | some (.slice _) => (lookK ks t).map fun k => [.sl k]
    | some (.struct fs) => (flatFs P (flatTy P ks n) fs.toList 0).bind fun l => bif Nat.beq (P.cellsOf t) l.length then some l else none
    | _ => none

/-- The table of slices tells the truth. -/
def ksOk (P : Program) : List (TypeId × Kind) → List (TypeId × Kind) → Bool
  | ks, [] => true
  | ks, (t, k) :: r => (match P.underlying t with | some (.slice e) => decide (flatTy P ks 6 e = some (leavesOf k)) && Nat.beq (P.cellsOf e) (szOf k) | _ => true) && ksOk P ks r

theorem ksOk_look {P : Program} {ks : List (TypeId × Kind)} : ∀ {r : List (TypeId × Kind)}, ksOk P ks r = true → ∀ {t e : TypeId} {k : Kind}, lookK r t = some k → P.underlying t = some (.slice e) → flatTy P ks 6 e = some (leavesOf k) ∧ P.cellsOf e = szOf k
  | [], _, t, e, k, hl, _ => by simp [lookK] at hl
  | (s, q) :: r, hk, t, e, k, hl, hu => by
    simp only [ksOk, Bool.and_eq_true] at hk
    simp only [lookK] at hl
    cases hb : Nat.beq s t with
    | true =>
      rw [hb] at hl
      simp at hl
      subst hl
      obtain rfl := Nat.eq_of_beq_eq_true hb
      have h1 := hk.1
      rw [hu] at h1
      simp only [Bool.and_eq_true, decide_eq_true_eq] at h1
      exact ⟨h1.1, Nat.eq_of_beq_eq_true h1.2⟩
    | false => rw [hb] at hl; exact ksOk_look hk.2 hl hu

section
variable {H : Type} {enc : TypeId × Value → H} {P : Program} {ks : List (TypeId × Kind)} {W : World} {sp : Nat → Bool} {held : Bool}

abbrev NoM : Nat → Prop := fun _ => False

/-- What is read is of a size that fits. -/
def BdF : Nat → F → Prop
  | _, .sc (.string s) => s.size ≤ maxLen
  | _, .sc (.int k n) => k.min ≤ n ∧ n ≤ k.max
  | n + 1, .sl _ k l => l.length ≤ maxLen ∧ ∀ x ∈ l, ∀ f ∈ cellsOf k x, BdF n f
  | 0, .sl _ _ _ => False
  | _, _ => True

theorem BdF.succ : ∀ {n : Nat} {f : F}, BdF n f → BdF (n + 1) f
  | n, .sc u, h => by cases u <;> simp only [BdF] at h ⊢ <;> exact h
  | n + 1, .sl t k l, h => ⟨h.1, fun x hx f hf => BdF.succ (h.2 x hx f hf)⟩
  | 0, .sl t k l, h => h.elim
  | n, .ep k x off, h => trivial
  | n, .err, h => trivial

theorem Wk.bd {n : Nat} : ∀ {fs gs : List F}, Wk fs gs → (∀ f ∈ fs, BdF n f) → ∀ g ∈ gs, BdF n g
  | [], [], _, _ => fun g hg => by cases hg
  | [], _ :: _, hk, _ => by unfold Wk at hk; exact hk.elim
  | _ :: _, [], hk, _ => by unfold Wk at hk; exact hk.elim
  | f :: fs, g :: gs, hk, hb => by
    unfold Wk at hk
    intro x hx
    rcases List.mem_cons.1 hx with rfl | hx
    · have h1 := hb f (List.mem_cons_self ..)
      rcases hk.1 with rfl | ⟨t, k, l, rfl, rfl⟩
      · exact h1
      · cases n with
        | zero => exact h1.elim
        | succ n => exact h1
    · exact Wk.bd hk.2 (fun y hy => hb y (List.mem_cons_of_mem _ hy)) x hx

theorem bd_one {n : Nat} {f : F} (h : BdF n f) : ∀ g ∈ [f], BdF n g := fun g hg => by
  rcases List.mem_cons.1 hg with rfl | hg
  · exact h
  · cases hg

/-- Cells and what they are taken for. -/
def RdCells (W : World) (n : Nat) (cs : List Value) (fs : List F) : Prop := cs.length = fs.length ∧ ∀ (j : Nat) (c : Value) (f : F), cs[j]? = some c → fs[j]? = some f → CellW W NoM n c f

theorem RdCells.append {n : Nat} {a b : List Value} {fs gs : List F} (h1 : RdCells W n a fs) (h2 : RdCells W n b gs) : RdCells W n (a ++ b) (fs ++ gs) := by
  refine ⟨by simp [h1.1, h2.1], fun j c f hc hf => ?_⟩
  rcases Nat.lt_or_ge j a.length with h | h
  · rw [List.getElem?_append_left h] at hc
    rw [List.getElem?_append_left (by rw [← h1.1]; exact h)] at hf
    exact h1.2 j c f hc hf
  · rw [List.getElem?_append_right h] at hc
    rw [List.getElem?_append_right (by rw [← h1.1]; exact h), ← h1.1] at hf
    exact h2.2 _ c f hc hf

theorem RdCells.one {n : Nat} {v : Value} {f : F} (h : CellW W NoM n v f) : RdCells W n [v] [f] := by
  refine ⟨rfl, fun j c g hc hg => ?_⟩
  cases j with
  | zero => simp at hc hg; subst hc; subst hg; exact h
  | succ j => simp at hc

theorem RdCells.wk {n : Nat} {cs : List Value} : ∀ {fs gs : List F}, RdCells W n cs fs → Wk fs gs → RdCells W n cs gs := by
  intro fs gs h hk
  have hl : fs.length = gs.length := by
    clear h
    induction fs generalizing gs with
    | nil => cases gs with
      | nil => rfl
      | cons g gs => unfold Wk at hk; exact hk.elim
    | cons f fs ih => cases gs with
      | nil => unfold Wk at hk; exact hk.elim
      | cons g gs => unfold Wk at hk; simp [ih hk.2]
  refine ⟨h.1.trans hl, fun j c g hc hg => ?_⟩
  obtain ⟨f, hf, hw⟩ := hk.get hg
  exact Wk.cell (h.2 j c f hc hf) hw

/-- A struct's fields, one behind the other. -/
theorem read_fields {n : Nat} {g : TypeId → Option (List Leaf)} (ih : ∀ t ls cs x, g t = some ls → DataW.trod enc P W 0 sp held n t cs = some x → ∃ fs, Fits ls fs ∧ RdCells W n cs fs ∧ ∀ f ∈ fs, BdF n f) :
    ∀ (fl : List Field) (off : Nat) (ls : List Leaf) (cs : List Value), flatFs P g fl off = some ls → cs.length = off + ls.length →
      (∀ f ∈ fl, ∃ x, DataW.trod enc P W 0 sp held n f.type ((cs.drop f.offset).take (P.cellsOf f.type)) = some x) → ∃ fs, Fits ls fs ∧ RdCells W n (cs.drop off) fs ∧ ∀ f ∈ fs, BdF n f
  | [], off, ls, cs, hf, hl, hx => by
    simp only [flatFs, Option.some.injEq] at hf
    subst hf
    have : cs.drop off = [] := List.eq_nil_of_length_eq_zero (by simp at hl ⊢; omega)
    rw [this]
    exact ⟨[], trivial, ⟨rfl, fun j c f hc => by simp at hc⟩, fun f hf => by cases hf⟩
  | f :: fl, off, ls, cs, hf, hl, hx => by
    simp only [flatFs] at hf
    cases h1 : Nat.beq f.offset off with
    | false => rw [h1] at hf; cases hf
    | true =>
      rw [h1] at hf
      simp only [cond_true, Option.bind_eq_some_iff] at hf
      obtain ⟨l, hl1, hf⟩ := hf
      cases h2 : Nat.beq (P.cellsOf f.type) l.length with
      | false => rw [h2] at hf; cases hf
      | true =>
        rw [h2] at hf
        simp only [cond_true, Option.bind_eq_some_iff, Option.some.injEq] at hf
        obtain ⟨q, hq, rfl⟩ := hf
        have e1 := Nat.eq_of_beq_eq_true h1
        have e2 := Nat.eq_of_beq_eq_true h2
        obtain ⟨x, hx1⟩ := hx f (List.mem_cons_self ..)
        rw [e1, e2] at hx1
        obtain ⟨fs1, p1, p2, p5⟩ := ih _ _ _ _ hl1 hx1
        obtain ⟨fs2, p3, p4, p6⟩ := read_fields ih fl (off + l.length) q cs hq (by simp at hl; omega) (fun g hg => hx g (List.mem_cons_of_mem _ hg))
        refine ⟨fs1 ++ fs2, p1.append p3, ?_, fun f hf => (List.mem_append.1 hf).elim (p5 f) (p6 f)⟩
        have hd : cs.drop off = (cs.drop off).take l.length ++ cs.drop (off + l.length) := by
          rw [← List.drop_drop]
          exact (List.take_append_drop l.length (cs.drop off)).symm
        rw [hd]
        exact p2.append p4

theorem cells?_get {b0 n : Nat} {a : Addr} {cs : List Value} (h : W.cells? b0 a n = some cs) : cs.length = n ∧ ∀ (j : Nat) (c : Value), cs[j]? = some c → W.cell? (a.add j) = some c := by
  unfold World.cells? at h
  split at h
  · have : ∀ (l : List Nat) (cs : List Value), (l.mapM fun i => W.cell? (a.add i)) = some cs → cs.length = l.length ∧ ∀ (j : Nat) (c : Value), cs[j]? = some c → ∃ i, l[j]? = some i ∧ W.cell? (a.add i) = some c := by
      intro l
      induction l with
      | nil => intro cs h; simp at h; subst h; exact ⟨rfl, fun j c hc => by simp at hc⟩
      | cons i l ih =>
        intro cs h
        simp only [List.mapM_cons, Option.bind_eq_bind, Option.pure_def, Option.bind_eq_some_iff, Option.some.injEq] at h
        obtain ⟨v, hv, r, hr, rfl⟩ := h
        obtain ⟨h1, h2⟩ := ih r hr
        refine ⟨by simp [h1], fun j c hc => ?_⟩
        cases j with
        | zero => simp at hc; subst hc; exact ⟨i, rfl, hv⟩
        | succ j => obtain ⟨i', h3, h4⟩ := h2 j c (by simpa using hc); exact ⟨i', by simpa using h3, h4⟩
    obtain ⟨h1, h2⟩ := this _ _ h
    refine ⟨by simpa using h1, fun j c hc => ?_⟩
    obtain ⟨i, h3, h4⟩ := h2 j c hc
    have hj : j < n := by rw [← show cs.length = n by simpa using h1]; exact (List.getElem?_eq_some_iff.1 hc).1
    rw [List.getElem?_range hj] at h3
    simp at h3
    rw [h3]
    exact h4
  · cases h

theorem cell_spot {a : Addr} {c : Value} (h : W.cell? a = some c) : a.spot = none ∧ a.block < W.heap.size := by
  unfold World.cell? at h
  split at h
  · rename_i hb
    refine ⟨?_, (Array.getElem?_eq_some_iff.1 hb).1⟩
    split at h
    · cases h
    · rename_i hs; simpa using hs
  · cases h

/-- WHAT IS READ. -/
theorem read_cells (hks : ksOk P ks ks = true) : ∀ (n m : Nat) (t : TypeId) (ls : List Leaf) (cs : List Value) (x : DataW H × List MemPlace), flatTy P ks m t = some ls → DataW.trod enc P W 0 sp held n t cs = some x → ∃ fs, Fits ls fs ∧ RdCells W n cs fs ∧ ∀ f ∈ fs, BdF n f
  | 0, m, t, ls, cs, x, hf, hx => by simp [DataW.trod] at hx
  | n + 1, 0, t, ls, cs, x, hf, hx => by simp [flatTy] at hf
  | n + 1, m + 1, t, ls, cs, x, hf, hx => by
    simp only [flatTy] at hf
    split at hf
    · rename_i hu
      simp at hf; subst hf
      obtain ⟨v, hc, _, hw⟩ := DataW.trod_int hu hx
      subst hc
      exact ⟨[.sc (.int .i64 v)], ⟨⟨v, rfl⟩, trivial⟩, RdCells.one ⟨rfl, rfl⟩, bd_one (by unfold BdF; simpa [Lit.wf] using hw)⟩
    · rename_i hu
      simp at hf; subst hf
      obtain ⟨v, hc, _, hw⟩ := DataW.trod_int hu hx
      subst hc
      have hb : 0 ≤ v ∧ v ≤ 255 := by simpa [Lit.wf, IntKind.min, IntKind.max, IntKind.signed, IntKind.bits] using hw
      refine ⟨[.sc (.int .u8 v)], ⟨⟨UInt8.ofNat v.toNat, ?_⟩, trivial⟩, RdCells.one ⟨rfl, rfl⟩, bd_one (by unfold BdF; simpa [Lit.wf] using hw)⟩
      have : (UInt8.ofNat v.toNat).toNat = v.toNat := by simp; omega
      rw [this]
      congr 2
      omega
    · rename_i hu
      simp at hf; subst hf
      obtain ⟨v, hc, _⟩ := DataW.trod_bool hu hx
      subst hc
      exact ⟨[.sc (.bool v)], ⟨⟨v, rfl⟩, trivial⟩, RdCells.one ⟨rfl, rfl⟩, bd_one trivial⟩
    · rename_i hu
      simp at hf; subst hf
      obtain ⟨v, hc, _, hsz⟩ := DataW.trod_string hu hx
      subst hc
      exact ⟨[.sc (.string v)], ⟨⟨v, rfl⟩, trivial⟩, RdCells.one ⟨rfl, rfl⟩, bd_one (by unfold BdF; exact hsz)⟩
    · rename_i e hu
      rw [Option.map_eq_some_iff] at hf
      obtain ⟨k, hk, rfl⟩ := hf
      obtain ⟨he, hce⟩ := ksOk_look hks hk hu
      rcases DataW.trod_slice hu hx with ⟨rfl, _⟩ | ⟨a, len, cap, elems, rest, n', hn', rfl, rfl, hb, hl, hm, hlen, hel, _, _⟩
      · refine ⟨[.sl false k []], ⟨⟨false, [], rfl⟩, trivial⟩, RdCells.one ?_, bd_one ⟨by simp, fun x hx => by cases hx⟩⟩
        exact ⟨none, 0, rfl, by simp, fun h => by simp at h, fun i x hx => by simp at hx⟩
      · obtain rfl : n' = n := by omega
        have each : ∀ i, i < len → ∃ y : El k, (∀ j f, (cellsOf k y)[j]? = some f → ∃ u, W.cell? ((a.add (i * szOf k)).add j) = some u ∧ CellW W NoM n' u f) ∧ ∀ f ∈ cellsOf k y, BdF n' f := by
          intro i hi
          have h1 := hel i hi
          rw [hce, List.getElem?_eq_getElem (by rw [hlen]; exact hi), Option.bind_eq_some_iff] at h1
          obtain ⟨ci, hci, htr⟩ := h1
          obtain ⟨fs, p1, p2, p5⟩ := read_cells hks n' 6 e _ ci _ he htr
          obtain ⟨y, hy⟩ := ofFits p1
          have p3 := p2.wk (ofCells_wk hy)
          obtain ⟨q1, q2⟩ := cells?_get hci
          refine ⟨y, fun j f hf => ?_, (ofCells_wk hy).bd p5⟩
          have hj : j < ci.length := by rw [p3.1]; exact (List.getElem?_eq_some_iff.1 hf).1
          exact ⟨ci[j], q2 j _ (List.getElem?_eq_getElem hj), p3.2 j _ f (List.getElem?_eq_getElem hj) hf⟩
        have list : ∀ m, m ≤ len → ∃ l : List (El k), (l.length = m ∧ ∀ i y, l[i]? = some y → ∀ j f, (cellsOf k y)[j]? = some f → ∃ u, W.cell? ((a.add (i * szOf k)).add j) = some u ∧ CellW W NoM n' u f) ∧ ∀ y ∈ l, ∀ f ∈ cellsOf k y, BdF n' f := by
          intro m
          induction m with
          | zero => intro _; exact ⟨[], ⟨rfl, fun i y hy => by simp at hy⟩, fun y hy => by cases hy⟩
          | succ m ih =>
            intro hm
            obtain ⟨l, ⟨h1, h2⟩, h3⟩ := ih (by omega)
            obtain ⟨y, hy, hbd⟩ := each m (by omega)
            refine ⟨l ++ [y], ⟨by simp [h1], fun i z hz => ?_⟩, fun z hz => (List.mem_append.1 hz).elim (h3 z) (fun hz => by rw [List.mem_singleton.1 hz]; exact hbd)⟩
            rcases Nat.lt_or_ge i l.length with h | h
            · rw [List.getElem?_append_left h] at hz; exact h2 i z hz
            · rw [List.getElem?_append_right h] at hz
              have : i - l.length = 0 := by
                rcases Nat.eq_zero_or_pos (i - l.length) with h0 | h0
                · exact h0
                · rw [List.getElem?_eq_none (by simp; omega)] at hz; cases hz
              rw [this] at hz
              simp at hz
              subst hz
              obtain rfl : i = m := by omega
              exact hy
        obtain ⟨l, ⟨hl1, hl2⟩, hl3⟩ := list len (Nat.le_refl _)
        refine ⟨[.sl false k l], ⟨⟨false, l, rfl⟩, trivial⟩, RdCells.one ?_, bd_one ⟨by omega, hl3⟩⟩
        refine ⟨some a, cap, by rw [hl1], by omega, fun h => by simp at h, fun i y hy => ?_⟩
        have hsp : a.spot = none ∧ a.block < W.heap.size := by
          have h0 : 0 < len := by
            have := (List.getElem?_eq_some_iff.1 hy).1
            omega
          obtain ⟨y0, hy0⟩ : ∃ y0, l[0]? = some y0 := ⟨_, List.getElem?_eq_getElem (by omega)⟩
          obtain ⟨c0, hc0⟩ : ∃ c0, (cellsOf k y0)[0]? = some c0 := ⟨_, List.getElem?_eq_getElem (by rw [cells_length]; exact szOf_pos k)⟩
          obtain ⟨u, hu0, _⟩ := hl2 0 _ hy0 0 _ hc0
          simp [Addr.add] at hu0
          exact cell_spot hu0
        have ha : a = ⟨a.block, a.off, none⟩ := by
          obtain ⟨b, o, sp0⟩ := a
          simp at hsp
          rw [hsp.1]
        refine ⟨a.block, a.off, by rw [← ha], fun h => h, hsp.2, fun j f hf => ?_⟩
        obtain ⟨u, hu0, hr⟩ := hl2 i y hy j f hf
        rw [ha, Addr.add_mid, Addr.add_mid] at hu0
        exact ⟨u, hu0, hr⟩
    · rename_i fs hu
      obtain ⟨xs, n', hn', rfl, hlen, hxl, hxs⟩ := DataW.trod_struct hu hx
      obtain rfl : n' = n := by omega
      rw [Option.bind_eq_some_iff] at hf
      obtain ⟨l, hl, hf⟩ := hf
      cases hb : Nat.beq (P.cellsOf t) l.length with
      | false => rw [hb] at hf; cases hf
      | true =>
        rw [hb] at hf
        simp only [cond_true, Option.some.injEq] at hf
        subst hf
        have := read_fields (fun t ls cs x h1 h2 => read_cells hks n' m t ls cs x h1 h2) fs.toList 0 l cs hl (by rw [hlen, Nat.eq_of_beq_eq_true hb]; omega) (fun f hfm => by
          obtain ⟨i, hi⟩ := List.getElem?_of_mem hfm
          have hi' : fs[i]? = some f := by simpa using hi
          have := hxs i f hi'
          have hlt : i < xs.length := by rw [hxl]; exact (Array.getElem?_eq_some_iff.1 hi').1
          exact ⟨xs[i], by rw [this, List.getElem?_eq_getElem hlt]⟩)
        obtain ⟨gs, p1, p2, p5⟩ := this
        rw [List.drop_zero] at p2
        exact ⟨gs, p1, ⟨p2.1, fun j c f hc hf => (p2.2 j c f hc hf).succ⟩, fun f hf => (p5 f hf).succ⟩
    · cases hf

/-- One cell: the value itself. -/
theorem ok_one' {b0 : Nat} {t : TypeId} {v : Value} {c : Value} (hs : ∀ fs, P.underlying t ≠ some (.struct fs)) (ha : ∀ n e, P.underlying t ≠ some (.array n e)) (hv : Value.okWide P W .any b0 t v) (hc : v.cells.toList = [c]) : v = c := by
  have hne : ∀ us, v ≠ .agg us := by
    rintro us rfl
    unfold Value.okWide at hv
    cases hu : P.underlying t with
    | none => rw [hu] at hv; unfold Cell.okWide at hv; rw [hu] at hv; unfold Cell.ok at hv; rw [hu] at hv; exact hv
    | some d =>
      rw [hu] at hv
      cases d <;> first
        | (exact hs _ hu)
        | (exact ha _ _ hu)
        | (simp only at hv; unfold Cell.okWide at hv; rw [hu] at hv; simp only at hv; first | (exact hv) | (unfold Cell.ok at hv; rw [hu] at hv; simp only at hv))
  have : v.cells = #[v] := by cases v <;> first | rfl | exact absurd rfl (hne _)
  rw [this] at hc
  simpa using hc

theorem read_one {h : Hp} {loc : Loc} (hks : ksOk P ks ks = true) {m b0 : Nat} {t : TypeId} {a : Leaf} {v : Value} {d : DataW H} {ps : List MemPlace} (hs : ∀ fs, P.underlying t ≠ some (.struct fs)) (ha : ∀ n e, P.underlying t ≠ some (.array n e))
    (hf : flatTy P ks m t = some [a]) (hv : Value.okWide P W .any b0 t v) (hd : DataW.Trod enc P W 0 sp held t v d ps) : ∃ f, Fit a f ∧ VW W NoM h loc v (.c (.f f)) ∧ ∃ n, BdF n f := by
  obtain ⟨n, hn⟩ := hd
  obtain ⟨fs, h1, h2, hbd⟩ := read_cells hks n m t _ _ _ hf hn
  obtain ⟨f, r, rfl, h3, h4⟩ := h1.cons
  obtain rfl := h4.nil
  have hl : v.cells.toList.length = 1 := h2.1
  obtain ⟨c, hc⟩ : ∃ c, v.cells.toList = [c] := List.length_eq_one_iff.1 hl
  have := ok_one' hs ha hv hc
  subst this
  refine ⟨f, h3, ?_, n, hbd f (List.mem_cons_self ..)⟩
  unfold VW CW
  exact ⟨n, h2.2 0 v f (by rw [hc]; rfl) rfl⟩

theorem cws_of {h : Hp} {loc : Loc} {n : Nat} : ∀ {cs : List Value} {fs : List F}, RdCells W n cs fs → CWs W NoM h loc cs (fs.map C.f)
  | [], [], _ => by simp; unfold CWs; trivial
  | [], _ :: _, hr => by have := hr.1; simp at this
  | _ :: _, [], hr => by have := hr.1; simp at this
  | c :: cs, f :: fs, hr => by
    simp only [List.map_cons]
    unfold CWs
    refine ⟨by unfold CW; exact ⟨n, hr.2 0 c f rfl rfl⟩, cws_of ⟨by have := hr.1; simpa using this, fun j c' f' hc hf => hr.2 (j + 1) c' f' (by simpa using hc) (by simpa using hf)⟩⟩

theorem read_agg {h : Hp} {loc : Loc} (hks : ksOk P ks ks = true) {m b0 : Nat} {t : TypeId} {fl : Array Field} {ls : List Leaf} {v : Value} {d : DataW H} {ps : List MemPlace} (hu : P.underlying t = some (.struct fl))
    (hf : flatTy P ks m t = some ls) (hv : Value.okWide P W .any b0 t v) (hd : DataW.Trod enc P W 0 sp held t v d ps) : ∃ fs, Fits ls fs ∧ VW W NoM h loc v (.agg (fs.map C.f)) ∧ ∃ n, ∀ f ∈ fs, BdF n f := by
  obtain ⟨n, hn⟩ := hd
  obtain ⟨fs, h1, h2, hbd⟩ := read_cells hks n m t _ _ _ hf hn
  unfold Value.okWide at hv
  rw [hu] at hv
  obtain ⟨cs, rfl, _⟩ := hv
  refine ⟨fs, h1, ?_, n, hbd⟩
  unfold VW
  exact ⟨cs.toList, by simp, cws_of h2⟩

theorem read_el {h : Hp} {loc : Loc} (hks : ksOk P ks ks = true) {m b0 : Nat} {t : TypeId} {fl : Array Field} {k : Kind} {v : Value} {d : DataW H} {ps : List MemPlace} (hu : P.underlying t = some (.struct fl))
    (hf : flatTy P ks m t = some (leavesOf k)) (hv : Value.okWide P W .any b0 t v) (hd : DataW.Trod enc P W 0 sp held t v d ps) : ∃ x : El k, VW W NoM h loc v (elV k x) ∧ ∃ n, ∀ f ∈ cellsOf k x, BdF n f := by
  obtain ⟨fs, h1, h2, n, hbd⟩ := read_agg (h := h) (loc := loc) hks hu hf hv hd
  obtain ⟨x, hx⟩ := ofFits h1
  exact ⟨x, h2.ofWk (ofCells_wk hx), n, (ofCells_wk hx).bd hbd⟩

def isStrT (P : Program) (t : TypeId) : Bool := match P.underlying t with | some (.struct _) => true | _ => false
def isRowT (P : Program) (t : TypeId) : Bool := match P.underlying t with | some (.struct _) => true | some (.array _ _) => true | _ => false

theorem rd_one {h : Hp} {loc : Loc} (hks : ksOk P ks ks = true) {b0 : Nat} {t : TypeId} {a : Leaf} {v : Value} {d : DataW H} {ps : List MemPlace} (hs : isRowT P t = false)
    (hf : flatTy P ks 6 t = some [a]) (hv : Value.okWide P W .any b0 t v) (hd : DataW.Trod enc P W 0 sp held t v d ps) : ∃ f, Fit a f ∧ VW W NoM h loc v (.c (.f f)) ∧ ∃ n, BdF n f :=
  read_one hks (fun fs h => by unfold isRowT at hs; rw [h] at hs; cases hs) (fun n e h => by unfold isRowT at hs; rw [h] at hs; cases hs) hf hv hd

theorem rd_agg {h : Hp} {loc : Loc} (hks : ksOk P ks ks = true) {b0 : Nat} {t : TypeId} {ls : List Leaf} {v : Value} {d : DataW H} {ps : List MemPlace} (hs : isStrT P t = true)
    (hf : flatTy P ks 6 t = some ls) (hv : Value.okWide P W .any b0 t v) (hd : DataW.Trod enc P W 0 sp held t v d ps) : ∃ fs, Fits ls fs ∧ VW W NoM h loc v (.agg (fs.map C.f)) ∧ ∃ n, ∀ f ∈ fs, BdF n f := by
  unfold isStrT at hs
  split at hs
  · rename_i fl hu
    exact read_agg hks hu hf hv hd
  · cases hs

theorem rd_el {h : Hp} {loc : Loc} (hks : ksOk P ks ks = true) {b0 : Nat} {t : TypeId} {k : Kind} {v : Value} {d : DataW H} {ps : List MemPlace} (hs : isStrT P t = true)
    (hf : flatTy P ks 6 t = some (leavesOf k)) (hv : Value.okWide P W .any b0 t v) (hd : DataW.Trod enc P W 0 sp held t v d ps) : ∃ x : El k, VW W NoM h loc v (elV k x) ∧ ∃ n, ∀ f ∈ cellsOf k x, BdF n f := by
  obtain ⟨fs, h1, h2, n, hbd⟩ := rd_agg (h := h) (loc := loc) hks hs hf hv hd
  obtain ⟨x, hx⟩ := ofFits h1
  exact ⟨x, h2.ofWk (ofCells_wk hx), n, (ofCells_wk hx).bd hbd⟩

/-! ### The law -/

theorem NoMut {h : Hp} (hh : h = hpOf .arg 0 []) {M : Nat → Prop} {loc : Loc} : ∀ b, Mut M h loc b → M b := by
  rintro b (hb | ⟨id, o, c, ho, _⟩)
  · exact hb
  · rw [hh] at ho; simp [hpOf] at ho

/-- A law that answers true: it leaves memory as it was; what is told of memory is told ahead of it. -/
theorem law_calls_at {cfg : Cfg} (hP : ProgOK G P cfg) (hG : G.ok W) (hlt : ∀ b, G.bl b → b < W.heap.size) {f : FuncId} {args : List V} {vs : List Value} {r : V × List Obj × List Obj} (hr : rn P cfg f args [] = some r) (ht : r.1 = .bool true)
    (hargs : VWs W NoM (hpOf .arg 0 []) (fun _ => none) vs args) : Calls P f vs.toArray W fun e W' => e = .returned (.bool true) ∧ W'.os = W.os ∧ W'.output = W.output ∧ W.heap.size ≤ W'.heap.size ∧ ∀ b, b < W.heap.size → W'.heap[b]? = W.heap[b]? := by
  have hf := rn_ok hP f args [] r hr
  refine (hf.calls NoM (fun _ => none) W vs (HW.empty (fun b hb => hb.elim) ⟨hG, fun b hb => ⟨hlt b hb, .inr fun hm => NoMut rfl b hm⟩⟩) (VWs.shape (Shape.refl _ _) (NoMut rfl) args hargs)).mono fun e W' => ?_
  rintro ⟨u, loc', rfl, hw, hex, hv⟩
  rw [ht] at hv
  have := hv.sc
  subst this
  exact ⟨rfl, hex.os, hex.output, hex.keeps.size, fun b hb => (hex.keeps.same b hb (fun h => NoMut rfl b h)).2⟩

/-- A law that answers true: it leaves memory as it was. -/
theorem law_calls {cfg : Cfg} (hP : ProgOK Gl.none P cfg) {f : FuncId} {args : List V} {vs : List Value} {r : V × List Obj × List Obj} (hr : rn P cfg f args [] = some r) (ht : r.1 = .bool true)
    (hargs : VWs W NoM (hpOf .arg 0 []) (fun _ => none) vs args) : Calls P f vs.toArray W fun e W' => e = .returned (.bool true) ∧ W'.os = W.os ∧ W'.output = W.output ∧ W.heap.size ≤ W'.heap.size ∧ ∀ b, b < W.heap.size → W'.heap[b]? = W.heap[b]? :=
  law_calls_at (G := Gl.none) hP trivial (fun _ h => h.elim) hr ht hargs

end
end Go.Vm

namespace Go.Vm
open Go.ChangeShapes
set_option linter.unusedVariables false
set_option linter.unusedSimpArgs false

section
variable {H : Type} {enc : TypeId × Value → H} {P : Program} {W : World} {sp : Nat → Bool} {held : Bool} {ks : List (TypeId × Kind)}

def certLeaves : List Leaf := [.str, .int, .int, .str, .sl .term, .int]

theorem rd_cert {h : Hp} {loc : Loc} (hks : ksOk P ks ks = true) {b0 : Nat} {t : TypeId} {v : Value} {d : DataW H} {ps : List MemPlace} (hs : isStrT P t = true)
    (hf : flatTy P ks 6 t = some certLeaves) (hv : Value.okWide P W .any b0 t v) (hd : DataW.Trod enc P W 0 sp held t v d ps) : ∃ x : Cert, VW W NoM h loc v (.ag (Cert.cells x)) ∧ ∃ n, ∀ f ∈ Cert.cells x, BdF n f := by
  obtain ⟨fs, q, h2, n, hbd⟩ := rd_agg (h := h) (loc := loc) hks hs hf hv hd
  obtain ⟨f0, r0, rfl, q0, q⟩ := q.cons
  obtain ⟨f1, r1, rfl, q1, q⟩ := q.cons
  obtain ⟨f2, r2, rfl, q2, q⟩ := q.cons
  obtain ⟨f3, r3, rfl, q3, q⟩ := q.cons
  obtain ⟨f4, r4, rfl, q4, q⟩ := q.cons
  obtain ⟨f5, r5, rfl, q5, q⟩ := q.cons
  obtain rfl := q.nil
  obtain ⟨v0, rfl⟩ := q0
  obtain ⟨v1, rfl⟩ := q1
  obtain ⟨v2, rfl⟩ := q2
  obtain ⟨v3, rfl⟩ := q3
  obtain ⟨t4, v4, rfl⟩ := q4
  obtain ⟨v5, rfl⟩ := q5
  have hw : Wk [.str v0, .int v1, .int v2, .str v3, .sl t4 .term v4, .int v5] (Cert.cells ⟨v0, ⟨v1, v2, v3, v4⟩, v5⟩) := by simp [Wk, Cert.cells]
  exact ⟨_, h2.ofWk hw, n, hw.bd hbd⟩

def clientLeaves : List Leaf := [.int, .str, .bool, .int, .int, .int, .int, .str, .sl .term, .int, .int, .bool, .bool]

theorem rd_client {h : Hp} {loc : Loc} (hks : ksOk P ks ks = true) {b0 : Nat} {t : TypeId} {v : Value} {d : DataW H} {ps : List MemPlace} (hs : isStrT P t = true)
    (hf : flatTy P ks 6 t = some clientLeaves) (hv : Value.okWide P W .any b0 t v) (hd : DataW.Trod enc P W 0 sp held t v d ps) : ∃ x : Client, VW W NoM h loc v (.ag (Client.cells x)) ∧ ∃ n, ∀ f ∈ Client.cells x, BdF n f := by
  obtain ⟨fs, q, h2, n, hbd⟩ := rd_agg (h := h) (loc := loc) hks hs hf hv hd
  obtain ⟨f0, r0, rfl, q0, q⟩ := q.cons
  obtain ⟨f1, r1, rfl, q1, q⟩ := q.cons
  obtain ⟨f2, r2, rfl, q2, q⟩ := q.cons
  obtain ⟨f3, r3, rfl, q3, q⟩ := q.cons
  obtain ⟨f4, r4, rfl, q4, q⟩ := q.cons
  obtain ⟨f5, r5, rfl, q5, q⟩ := q.cons
  obtain ⟨f6, r6, rfl, q6, q⟩ := q.cons
  obtain ⟨f7, r7, rfl, q7, q⟩ := q.cons
  obtain ⟨f8, r8, rfl, q8, q⟩ := q.cons
  obtain ⟨f9, r9, rfl, q9, q⟩ := q.cons
  obtain ⟨f10, r10, rfl, q10, q⟩ := q.cons
  obtain ⟨f11, r11, rfl, q11, q⟩ := q.cons
  obtain ⟨f12, r12, rfl, q12, q⟩ := q.cons
  obtain rfl := q.nil
  obtain ⟨v0, rfl⟩ := q0
  obtain ⟨v1, rfl⟩ := q1
  obtain ⟨v2, rfl⟩ := q2
  obtain ⟨v3, rfl⟩ := q3
  obtain ⟨v4, rfl⟩ := q4
  obtain ⟨v5, rfl⟩ := q5
  obtain ⟨v6, rfl⟩ := q6
  obtain ⟨v7, rfl⟩ := q7
  obtain ⟨t8, v8, rfl⟩ := q8
  obtain ⟨v9, rfl⟩ := q9
  obtain ⟨v10, rfl⟩ := q10
  obtain ⟨v11, rfl⟩ := q11
  obtain ⟨v12, rfl⟩ := q12
  have hw : Wk [.int v0, .str v1, .bool v2, .int v3, .int v4, .int v5, .int v6, .str v7, .sl t8 .term v8, .int v9, .int v10, .bool v11, .bool v12] (Client.cells ⟨v0, v1, v2, v3, v4, ⟨v5, v6, v7, v8⟩, v9, v10, v11, v12⟩) := by simp [Wk, Client.cells]
  exact ⟨_, h2.ofWk hw, n, hw.bd hbd⟩

def serverLeaves : List Leaf := [.int, .str, .int, .int, .int, .int, .str, .sl .term, .int, .int, .str, .sl .term, .int, .int, .bool, .sl .int]

theorem rd_server {h : Hp} {loc : Loc} (hks : ksOk P ks ks = true) {b0 : Nat} {t : TypeId} {v : Value} {d : DataW H} {ps : List MemPlace} (hs : isStrT P t = true)
    (hf : flatTy P ks 6 t = some serverLeaves) (hv : Value.okWide P W .any b0 t v) (hd : DataW.Trod enc P W 0 sp held t v d ps) : ∃ x : Server, VW W NoM h loc v (.ag (Server.cells x)) ∧ ∃ n, ∀ f ∈ Server.cells x, BdF n f := by
  obtain ⟨fs, q, h2, n, hbd⟩ := rd_agg (h := h) (loc := loc) hks hs hf hv hd
  obtain ⟨f0, r0, rfl, q0, q⟩ := q.cons
  obtain ⟨f1, r1, rfl, q1, q⟩ := q.cons
  obtain ⟨f2, r2, rfl, q2, q⟩ := q.cons
  obtain ⟨f3, r3, rfl, q3, q⟩ := q.cons
  obtain ⟨f4, r4, rfl, q4, q⟩ := q.cons
  obtain ⟨f5, r5, rfl, q5, q⟩ := q.cons
  obtain ⟨f6, r6, rfl, q6, q⟩ := q.cons
  obtain ⟨f7, r7, rfl, q7, q⟩ := q.cons
  obtain ⟨f8, r8, rfl, q8, q⟩ := q.cons
  obtain ⟨f9, r9, rfl, q9, q⟩ := q.cons
  obtain ⟨f10, r10, rfl, q10, q⟩ := q.cons
  obtain ⟨f11, r11, rfl, q11, q⟩ := q.cons
  obtain ⟨f12, r12, rfl, q12, q⟩ := q.cons
  obtain ⟨f13, r13, rfl, q13, q⟩ := q.cons
  obtain ⟨f14, r14, rfl, q14, q⟩ := q.cons
  obtain ⟨f15, r15, rfl, q15, q⟩ := q.cons
  obtain rfl := q.nil
  obtain ⟨v0, rfl⟩ := q0
  obtain ⟨v1, rfl⟩ := q1
  obtain ⟨v2, rfl⟩ := q2
  obtain ⟨v3, rfl⟩ := q3
  obtain ⟨v4, rfl⟩ := q4
  obtain ⟨v5, rfl⟩ := q5
  obtain ⟨v6, rfl⟩ := q6
  obtain ⟨t7, v7, rfl⟩ := q7
  obtain ⟨v8, rfl⟩ := q8
  obtain ⟨v9, rfl⟩ := q9
  obtain ⟨v10, rfl⟩ := q10
  obtain ⟨t11, v11, rfl⟩ := q11
  obtain ⟨v12, rfl⟩ := q12
  obtain ⟨v13, rfl⟩ := q13
  obtain ⟨v14, rfl⟩ := q14
  obtain ⟨t15, v15, rfl⟩ := q15
  have hw : Wk [.int v0, .str v1, .int v2, .int v3, .int v4, .int v5, .str v6, .sl t7 .term v7, .int v8, .int v9, .str v10, .sl t11 .term v11, .int v12, .int v13, .bool v14, .sl t15 .int v15] (Server.cells ⟨v0, v1, v2, v3, ⟨v4, v5, v6, v7⟩, ⟨v8, v9, v10, v11⟩, v12, v13, v14, v15⟩) := by simp [Wk, Server.cells]
  exact ⟨_, h2.ofWk hw, n, hw.bd hbd⟩

def worldLeaves : List Leaf := [.int, .int, .sl .term, .sl .policy, .sl .host, .sl .letter, .str, .int, .sl .call, .sl .talk, .sl .int]

theorem rd_world {h : Hp} {loc : Loc} (hks : ksOk P ks ks = true) {b0 : Nat} {t : TypeId} {v : Value} {d : DataW H} {ps : List MemPlace} (hs : isStrT P t = true)
    (hf : flatTy P ks 6 t = some worldLeaves) (hv : Value.okWide P W .any b0 t v) (hd : DataW.Trod enc P W 0 sp held t v d ps) : ∃ x : WorldD, VW W NoM h loc v (.ag (WorldD.cells x)) ∧ ∃ n, ∀ f ∈ WorldD.cells x, BdF n f := by
  obtain ⟨fs, q, h2, n, hbd⟩ := rd_agg (h := h) (loc := loc) hks hs hf hv hd
  obtain ⟨f0, r0, rfl, q0, q⟩ := q.cons
  obtain ⟨f1, r1, rfl, q1, q⟩ := q.cons
  obtain ⟨f2, r2, rfl, q2, q⟩ := q.cons
  obtain ⟨f3, r3, rfl, q3, q⟩ := q.cons
  obtain ⟨f4, r4, rfl, q4, q⟩ := q.cons
  obtain ⟨f5, r5, rfl, q5, q⟩ := q.cons
  obtain ⟨f6, r6, rfl, q6, q⟩ := q.cons
  obtain ⟨f7, r7, rfl, q7, q⟩ := q.cons
  obtain ⟨f8, r8, rfl, q8, q⟩ := q.cons
  obtain ⟨f9, r9, rfl, q9, q⟩ := q.cons
  obtain ⟨f10, r10, rfl, q10, q⟩ := q.cons
  obtain rfl := q.nil
  obtain ⟨v0, rfl⟩ := q0
  obtain ⟨v1, rfl⟩ := q1
  obtain ⟨t2, v2, rfl⟩ := q2
  obtain ⟨t3, v3, rfl⟩ := q3
  obtain ⟨t4, v4, rfl⟩ := q4
  obtain ⟨t5, v5, rfl⟩ := q5
  obtain ⟨v6, rfl⟩ := q6
  obtain ⟨v7, rfl⟩ := q7
  obtain ⟨t8, v8, rfl⟩ := q8
  obtain ⟨t9, v9, rfl⟩ := q9
  obtain ⟨t10, v10, rfl⟩ := q10
  have hw : Wk [.int v0, .int v1, .sl t2 .term v2, .sl t3 .policy v3, .sl t4 .host v4, .sl t5 .letter v5, .str v6, .int v7, .sl t8 .call v8, .sl t9 .talk v9, .sl t10 .int v10] (WorldD.cells ⟨v0, v1, v2, v3, v4, v5, v6, v7, v8, v9, v10⟩) := by simp [Wk, WorldD.cells]
  exact ⟨_, h2.ofWk hw, n, hw.bd hbd⟩

end
end Go.Vm

namespace Go.Vm
open Go.ChangeShapes
set_option linter.unusedVariables false
set_option linter.unusedSimpArgs false

section
variable {H : Type} {enc : TypeId × Value → H} {P : Program} {W W' : World}

theorem br_if {α : Type} (b : Bool) (x y : α) : br b x y = if b = true then x else y := by cases b <;> rfl

theorem VW.loosen {M : Nat → Prop} {h : Hp} {loc : Loc} {v : Value} {t : Bool} {k : Kind} {l : List (El k)} (hv : VW W M h loc v (.c (.f (.sl t k l)))) : VW W M h loc v (.sl false k l) := by
  unfold VW at hv ⊢
  exact hv.loose

theorem keptBut_of (h1 : W'.os = W.os) (h2 : W'.output = W.output) (hb : ∀ b, b < W.heap.size → W'.heap[b]? = W.heap[b]?) (may : MemPlace → Prop) : W.keptBut W' may := by
  refine ⟨h1, h2, fun i hi => ?_⟩
  rw [hb i hi]
  cases W.heap[i]? with
  | none => rfl
  | some o => cases o <;> first | exact ⟨rfl, rfl, rfl, fun _ _ => rfl⟩ | exact .inr ⟨rfl, rfl⟩ | rfl

theorem trodAll_stays (hl : laidOutB P = true) (hb : ∀ b, b < W.heap.size → W'.heap[b]? = W.heap[b]?) : ∀ {ts : List TypeId} {vs : List Value} {ds : List (DataW H)} {ps : List MemPlace}, (∀ t ∈ ts, P.readableRec t = true ∧ t < P.types.size) →
    (∀ p ∈ ps, p.block < W.heap.size) → DataW.TrodAll enc P W 0 (fun _ => true) true ts vs ds ps → DataW.TrodAll enc P W' 0 (fun b => decide (b < W.heap.size)) true ts vs ds ps
  | [], [], [], ps, _, _, h => h
  | [], _ :: _, _, ps, _, _, h => h.elim
  | [], [], _ :: _, ps, _, _, h => h.elim
  | _ :: _, [], _, ps, _, _, h => h.elim
  | _ :: _, _ :: _, [], ps, _, _, h => h.elim
  | t :: ts, v :: vs, d :: ds, ps, hr, hlt, ⟨p, q, h1, h2, e⟩ => by
    subst e
    refine ⟨p, q, WideElems.Trod_stays hl (hr t (List.mem_cons_self ..)).1 (hr t (List.mem_cons_self ..)).2 h1 (fun x hx => ?_) (fun x hx => by simpa using hlt x (List.mem_append_left _ hx)), ?_, rfl⟩
    · have := hb x.block (hlt x (List.mem_append_left _ hx))
      cases x <;> simp only [MemPlace.block] at this <;> simp only [World.sameAt, World.cell?] <;> rw [this]
    · exact trodAll_stays hl hb (fun t ht => hr t (List.mem_cons_of_mem _ ht)) (fun x hx => hlt x (List.mem_append_right _ hx)) h2

theorem law_post {fn : Func} {s : ChangeSpec} {args : Array Value} {ds gs : List (DataW H)} {before : List MemPlace} {tb : TypeId} (hvars : s.vars = []) (hfn : s.fn H (ds ++ gs) = { results := [.lit (.bool true)], args := ds }) (hres : fn.resultTypes = #[tb])
    (htb : P.underlying tb = some .bool) (hl : laidOutB P = true) (hro : ∀ t ∈ fn.params.toList, P.readableRec t = true ∧ t < P.types.size)
    (hW : DataW.Whole enc P fn.params.toList s.vars false W args.toList ds gs before) (h1 : W'.os = W.os) (h2 : W'.output = W.output) (hb : ∀ b, b < W.heap.size → W'.heap[b]? = W.heap[b]?) :
    s.post enc P fn false true false false W args (.bool true) W' := by
  have hW0 := hW
  have hlt := hW.lt
  obtain ⟨p, q, hA, hV, rfl, _, _⟩ := hW
  rw [hvars] at hV
  obtain ⟨rfl, rfl⟩ := trodVars_none hV
  refine ⟨ds, [], p ++ [], [], p, [], hW0, ?_, ?_, ?_, keptBut_of h1 h2 hb _, fun h => by cases h⟩
  · rw [hfn, hres]
    exact ⟨[], [], ⟨1, by simp [DataW.trod, Value.cells, htb]⟩, rfl, rfl⟩
  · rw [hfn]
    exact trodAll_stays hl hb hro (fun x hx => hlt x (by simpa using hx)) hA
  · rw [hfn, hvars]
    exact rfl

end
end Go.Vm

namespace Go.Vm
set_option linter.unusedVariables false
set_option linter.unusedSimpArgs false

section
variable {P : Program} {cfg : Cfg} {T : CallSem} {n d f r na q : Nat} {s s' : St} {e : Ex} {x : Ex × St}

theorem round_some (h : roundK P cfg T n d f r na s = some x) : ∃ b, loopBody P f r = some b ∧ ∃ y, aexec cfg T (runI P cfg T n d) f b.1 na n b.2 s = some y ∧
    (match y.1 with | .nrm => (clean na (cfg.lh f r).head y.2).bind fun s => some (.nrm, s) | e => (clean na (cfg.lh f r).out y.2).bind fun s => some (e, s)) = some x := by
  unfold roundK at h
  split at h
  · rename_i b hb
    obtain ⟨y, h1, h2⟩ := aexecK_some (runK_some d) b.2 h
    exact ⟨b, hb, y, h1, h2⟩
  · cases h

theorem lp_next (h : roundK P cfg T n d f r na s = some (.nrm, s')) (hl : lp P cfg T n d f r na q s' = some x) : lp P cfg T n d f r na (q + 1) s = some x := by
  obtain ⟨b, hb, ⟨e, y⟩, h1, h2⟩ := round_some h
  unfold lp at hl ⊢
  rw [hb] at hl ⊢
  simp only at hl ⊢
  simp only [loopA, h1, Option.bind_some]
  cases e with
  | nrm =>
    simp only [Option.bind_eq_some_iff, Option.some.injEq, Prod.mk.injEq, true_and] at h2 ⊢
    obtain ⟨s1, h3, rfl⟩ := h2
    exact ⟨s1, h3, hl⟩
  | ext id =>
    simp only [Option.bind_eq_some_iff, Option.some.injEq, Prod.mk.injEq] at h2
    obtain ⟨s1, h3, h4, _⟩ := h2
    cases h4
  | ret =>
    simp only [Option.bind_eq_some_iff, Option.some.injEq, Prod.mk.injEq] at h2
    obtain ⟨s1, h3, h4, _⟩ := h2
    cases h4

theorem lp_out (h : roundK P cfg T n d f r na s = some (e, s')) (he : isN e = false) : lp P cfg T n d f r na (q + 1) s = some (e, s') := by
  obtain ⟨b, hb, ⟨e1, y⟩, h1, h2⟩ := round_some h
  unfold lp
  rw [hb]
  simp only
  simp only [loopA, h1, Option.bind_some]
  cases e1 with
  | nrm =>
    simp only [Option.bind_eq_some_iff, Option.some.injEq, Prod.mk.injEq] at h2
    obtain ⟨s1, h3, h4, _⟩ := h2
    rw [← h4] at he
    cases he
  | ext id => exact h2
  | ret => exact h2

theorem pres_f {f : FuncId} {xs : List V} {y : F} (h : T f xs [] = some (.c (.f y), [], [])) : pres T f xs = some (.c (.f y)) := by
  unfold pres
  rw [h]
  rfl

theorem snap_fs (h : Hp) : ∀ (fs : List F), lmapM (snapC h) (fs.map C.f) = some (fs.map C.f)
  | [] => rfl
  | f :: fs => by simp only [List.map_cons, lmapM, snapC, Option.bind_some, snap_fs h fs]

theorem pres_ag {f : FuncId} {xs : List V} {fs : List F} (h : T f xs [] = some (.ag fs, [], [])) : pres T f xs = some (.ag fs) := by
  unfold pres
  rw [h]
  simp only [Option.bind_some, frzBack, snap_fs, Option.map_some]

end
end Go.Vm
