/-
  The machine's table of types, out of the program's own.
-/
import Derived.Test.YtepghohkfnmhmaaDoorVmKOK
namespace Go.Vm
set_option linter.unusedVariables false
set_option linter.unusedSimpArgs false

def lookK (ks : List (TypeId × Kind)) (t : TypeId) : Option Kind :=
  match ks with
  | [] => none
  | (s, k) :: r => bif Nat.beq s t then some k else lookK r t

/-- What each cell of a type is: a slice of some kind, or none. -/
def flatK (P : Program) (ks : List (TypeId × Kind)) : Nat → TypeId → List (Option Kind)
  | 0, _ => []
  | n + 1, t => match P.underlying t with
    | some (.struct fs) => fs.toList.flatMap fun f => flatK P ks n f.type
    | some (.slice _) => [lookK ks t]
    | _ => [none]

def zeroC : Value → Option Kind → C
  | .bool b, _ => .f (.sc (.bool b))
  | .int k n, _ => .f (.sc (.int k n))
  | .string s, _ => .f (.sc (.string s))
  | .slice none 0 0, some k => .f (.sl true k [])
  | .nilIface, _ => .f (.sc .nilIface)
  | _, _ => .hole

def zeroCs : List Value → List (Option Kind) → List C
  | [], _ => []
  | v :: vs, [] => zeroC v none :: zeroCs vs []
  | v :: vs, k :: ks => zeroC v k :: zeroCs vs ks

def kinOk (P : Program) : TypeDesc → Option Kind → Bool
  | .slice e, some k => match P.info? e with
    | some x => match x.zero with
      | some z => Nat.beq x.size (szOf k) && zms z.cells.toList ((cellsOf k (zeroEl k)).map fun f => match f with | .sl _ q _ => .f (.sl true q []) | f => .f f) && Nat.blt 0 x.bytes && Nat.ble x.bytes 1000
      | none => false
    | none => false
  | _, _ => true

def fldOk (P : Program) : TypeDesc → Bool
  | .struct fs => fs.toList.all fun f => (P.info? f.type).isSome
  | _ => true

def kindD (ks : List (TypeId × Kind)) (t : TypeId) : TypeDesc → Option Kind
  | .slice _ => lookK ks t
  | _ => none

def tbOf (P : Program) (ks : List (TypeId × Kind)) (t : TypeId) : Option TI :=
  match P.underlying t with
  | some d => match P.info? t with
    | some x => match x.zero with
      | some z => bif zms z.cells.toList (zeroCs z.cells.toList (flatK P ks 6 t)) && kinOk P d (kindD ks t d) && fldOk P d then
          some ⟨d, x.size, x.bytes, z, zeroCs z.cells.toList (flatK P ks 6 t), kindD ks t d⟩ else none
      | none => none
    | none => none
  | none => none

def eqOf (P : Program) (es : List TypeId) (t : TypeId) : Bool := es.contains t && !(P.eqGuardType P.depth t) && !(P.stoodInHeld t)

theorem tbOf_some {P : Program} {ks : List (TypeId × Kind)} {t : TypeId} {i : TI} (h : tbOf P ks t = some i) :
    ∃ x, P.underlying t = some i.desc ∧ P.info? t = some x ∧ x.zero = some i.zv ∧ x.size = i.size ∧ x.bytes = i.bytes ∧ zms i.zv.cells.toList i.zero = true ∧ i.kind = kindD ks t i.desc ∧ kinOk P i.desc i.kind = true ∧ fldOk P i.desc = true := by
  unfold tbOf at h
  split at h
  · rename_i d hd
    split at h
    · rename_i x hx
      split at h
      · rename_i z hz
        cases hc : zms z.cells.toList (zeroCs z.cells.toList (flatK P ks 6 t)) && kinOk P d (kindD ks t d) && fldOk P d with
        | false => rw [hc] at h; cases h
        | true =>
          rw [hc] at h
          simp only [cond_true, Option.some.injEq] at h
          subst h
          simp only [Bool.and_eq_true] at hc
          exact ⟨x, hd, hx, hz, rfl, rfl, hc.1.1, rfl, hc.1.2, hc.2⟩
      · cases h
    · cases h
  · cases h

theorem tabOK_of {P : Program} {cfg : Cfg} {ks : List (TypeId × Kind)} {es : List TypeId} (htb : cfg.tb = tbOf P ks) (heq : cfg.eqT = eqOf P es) : TabOK P cfg := by
  refine ⟨?_, ?_, ?_, ?_, ?_, ?_⟩
  · intro t i h; rw [htb] at h; obtain ⟨x, h1, _⟩ := tbOf_some h; exact h1
  · intro t i h; rw [htb] at h; obtain ⟨x, h1, h2, h3, h4, h5, _⟩ := tbOf_some h; exact ⟨x, h2, h3, h4, h5⟩
  · intro t i h; rw [htb] at h; obtain ⟨x, h1, h2, h3, h4, h5, h6, _⟩ := tbOf_some h; exact h6
  · intro t i k e h hd hk
    rw [htb] at h
    obtain ⟨x, h1, h2, h3, h4, h5, h6, h7, h8, h9⟩ := tbOf_some h
    rw [hd, hk] at h8
    unfold kinOk at h8
    simp only at h8
    split at h8
    · rename_i y hy
      split at h8
      · rename_i z hz
        simp only [Bool.and_eq_true] at h8
        refine ⟨y, z, hy, hz, Nat.eq_of_beq_eq_true h8.1.1.1, h8.1.1.2, ?_, Nat.le_of_ble_eq_true h8.2⟩
        have := h8.1.2
        simp [Nat.blt] at this
        omega
      · cases h8
    · cases h8
  · intro t i fs h hd f hf
    rw [htb] at h
    obtain ⟨x, h1, h2, h3, h4, h5, h6, h7, h8, h9⟩ := tbOf_some h
    rw [hd] at h9
    unfold fldOk at h9
    rw [List.all_eq_true] at h9
    exact Option.isSome_iff_exists.1 (h9 f hf)
  · intro t h
    rw [heq] at h
    simp only [eqOf, Bool.and_eq_true, Bool.not_eq_true'] at h
    exact ⟨h.1.2, h.2⟩

def namesOk (P : Program) : Bool := P.funcs.all fun fn => !(fn.name == "runtime.NumGoroutine")

theorem names_of {P : Program} (h : namesOk P = true) : ∀ (f : FuncId) (fn : Func), P.funcs[f]? = some fn → (fn.name == "runtime.NumGoroutine") = false := by
  intro f fn hf
  unfold namesOk at h
  rw [Array.all_eq_true_iff_forall_mem] at h
  have := h fn (Array.mem_of_getElem? hf)
  simpa using this

end Go.Vm
