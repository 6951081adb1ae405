/-
  Functions of the library that hand back fresh lists, taken by their contracts: strings.Split.
-/
import Derived.Test.YtepghohkfnmhmaaDoorVmExt
import Derived.Lib.SplitLaws
namespace Go.Vm
open Go.Proofs Go.RowKit
set_option linter.unusedVariables false
set_option linter.unusedSimpArgs false

section
variable {G : Gl} {P : Program} {cfg : Cfg}

theorem below_alloc (w : World) (o : Go.Obj) : Below w.heap.size w (w.alloc o) :=
  ⟨rfl, rfl, rfl, by show w.heap.size ≤ (w.heap.push o).size; rw [Array.size_push]; omega, fun b hb => by
    show (w.heap.push o)[b]? = w.heap[b]?
    rw [Array.getElem?_push_lt hb, Array.getElem?_eq_getElem hb]⟩

theorem HW.newMut {U : Nat → Prop} {h : Hp} {loc : Loc} {w : World} (hw : HW G U h loc w) : ¬ Mut U h loc w.heap.size := by
  rintro (hu | ⟨id, o, c, h1, h2, h3⟩)
  · exact Nat.lt_irrefl _ (hw.low _ hu)
  · exact Nat.lt_irrefl _ (hw.sep id o _ c h1 h2 h3).2

/-- A function that is handed frozen data and answers with fresh texts. -/
theorem FnOK.texts {f : FuncId} {args : List V} {l : List ByteArray} {c : Nat} {T : TypeId} (hc0 : l.length ≤ c) (hfn : ∃ fn c, P.funcs[f]? = some fn ∧ fn.body = some c ∧ (fn.name == "runtime.NumGoroutine") = false)
    (hc : ∀ (M : Nat → Prop) (loc : Loc) (w : World) (vs : List Value), G.ok w → VWs w M (hpOf .arg 0 []) loc vs args →
      Calls P f vs.toArray w fun e w' => e = .returned (.slice (some ⟨w.heap.size, 0, none⟩) l.length c) ∧ w' = w.alloc (.cells (l.map Value.string).toArray T)) :
    FnOK G P f args [] (.c (.f (.sl false .str l)), [], []) := by
  refine ⟨hfn, rfl, fun U loc w vs hw hv => ?_⟩
  refine (hc _ loc w vs hw.gl.1 hv).mono fun e w' => ?_
  rintro ⟨rfl, rfl⟩
  have hb := below_alloc w (.cells (l.map Value.string).toArray T)
  have he : outHp [] [] = hpOf .arg 0 [] := by rw [outHp_nil]; rfl
  refine ⟨_, loc, rfl, ?_⟩
  rw [he]
  refine ⟨hw.grow hb.size hb.block hb.os hb.tape hb.output, Ext.grow hb.size hb.block hb.os hb.tape hb.output, ?_⟩
  unfold VW CW
  refine ⟨1, ?_⟩
  unfold CellW
  refine ⟨_, c, rfl, hc0, (fun h => by cases h), fun i x hx => ⟨w.heap.size, 0, rfl, hw.newMut, (by show w.heap.size < (w.heap.push _).size; rw [Array.size_push]; omega), fun j f hf => ?_⟩⟩
  have hj : j = 0 ∧ f = .str x := by
    cases j with
    | zero => simp [cellsOf] at hf; exact ⟨rfl, hf.symm⟩
    | succ j => simp [cellsOf] at hf
  obtain ⟨rfl, rfl⟩ := hj
  refine ⟨.string x, ?_, by unfold CellW; exact ⟨rfl, rfl⟩⟩
  have h1 : (w.alloc (.cells (l.map Value.string).toArray T)).heap[w.heap.size]? = some (.cells (l.map Value.string).toArray T) := by
    show (w.heap.push _)[w.heap.size]? = _
    rw [Array.getElem?_push_size]
  unfold World.cell?
  rw [h1]
  simp [szOf, hx]

def splitB (s sep : ByteArray) : List ByteArray := Lib.splitB sep 0 (Lib.countB s sep) s

def extSplit : List V → List Obj → Option (V × List Obj × List Obj)
  | [.c (.f (.sc (.string s))), .c (.f (.sc (.string sep)))], [] => if s.size < 4294967281 ∧ 1 ≤ sep.size then some (.c (.f (.sl false .str (splitB s sep))), [], []) else none
  | _, _ => none

theorem extSplit_ok {f : FuncId} {T : TypeId} (hfn : ∃ fn c, P.funcs[f]? = some fn ∧ fn.body = some c ∧ (fn.name == "runtime.NumGoroutine") = false)
    (hc : ∀ (s sep : ByteArray) (w : World), s.size < 4294967281 → 1 ≤ sep.size → G.ok w → Calls P f #[.string s, .string sep] w fun e w' =>
      e = .returned (.slice (some ⟨w.heap.size, 0, none⟩) (Lib.countB s sep + 1) (Lib.countB s sep + 1)) ∧ w' = w.alloc (.cells ((Lib.splitB sep 0 (Lib.countB s sep) s).map Value.string).toArray T)) :
    ∀ args objs r, extSplit args objs = some r → FnOK G P f args objs r := by
  intro args objs r hr
  unfold extSplit at hr
  split at hr
  · rename_i s sep
    split at hr
    · rename_i hb
      simp only [Option.some.injEq] at hr
      subst hr
      have hlen : (splitB s sep).length = Lib.countB s sep + 1 := Lib.splitB_all sep hb.2 0 _ s rfl
      refine FnOK.texts (c := Lib.countB s sep + 1) (T := T) (by omega) hfn fun M loc w vs hg hv => ?_
      cases vs with
      | nil => exact hv.elim
      | cons u us =>
        unfold VWs at hv
        cases us with
        | nil => exact hv.2.elim
        | cons u2 us =>
          have hv2 := hv.2
          unfold VWs at hv2
          cases us with
          | cons => exact hv2.2.elim
          | nil =>
            have e1 := hv.1.sc
            have e2 := hv2.1.sc
            subst e1 e2
            rw [hlen]
            exact hc s sep w hb.1 hb.2 hg
    · cases hr
  · cases hr

end
end Go.Vm
