/-
  Functions of the library, taken by their contracts; package-level tables that are told.
-/
import Derived.Test.YtepghohkfnmhmaaDoorVmLib
import Derived.Shelf.Strconv.Itoa3
import Derived.Shelf.Strings.OnBuilder
import Derived.Lib.LaidTab
import Derived.Lib.ItoaLen
namespace Go.Vm
open Go.Proofs Go.RowKit
set_option linter.unusedVariables false
set_option linter.unusedSimpArgs false

section
variable {G : Gl} {P : Program} {cfg : Cfg}

theorem rn_ext {f : FuncId} {g : List V → List Obj → Option (V × List Obj × List Obj)} {args : List V} {objs : List Obj} {r : V × List Obj × List Obj} (hg : cfg.ext f = some g) (h : g args objs = some r) : rn P cfg f args objs = some r := by
  refine rn_some.2 ⟨1, fun n hn => ?_⟩
  obtain ⟨n, rfl⟩ : ∃ m, n = m + 1 := ⟨n - 1, by omega⟩
  simp only [run, hg]
  exact h

/-- A function that is handed frozen data, answers a scalar and leaves old memory alone. -/
theorem FnOK.below {f : FuncId} {args : List V} {x : Value} (hx : scal x = true) (hfn : ∃ fn c, P.funcs[f]? = some fn ∧ fn.body = some c ∧ (fn.name == "runtime.NumGoroutine") = false)
    (hc : ∀ (M : Nat → Prop) (loc : Loc) (w : World) (vs : List Value), G.ok w → VWs w M (hpOf .arg 0 []) loc vs args → Calls P f vs.toArray w fun e w' => e = .returned x ∧ Below w.heap.size w w') :
    FnOK G P f args [] (.c (.f (.sc x)), [], []) := by
  refine ⟨hfn, rfl, fun U loc w vs hw hv => ?_⟩
  refine (hc _ loc w vs hw.gl.1 hv).mono fun e w' => ?_
  rintro ⟨rfl, hb⟩
  have he : outHp [] [] = hpOf .arg 0 [] := by rw [outHp_nil]; rfl
  refine ⟨x, loc, rfl, ?_⟩
  rw [he]
  refine ⟨hw.grow hb.size hb.block hb.os hb.tape hb.output, Ext.grow hb.size hb.block hb.os hb.tape hb.output, ?_⟩
  unfold VW CW
  exact ⟨0, rfl, hx⟩

/-! ### Tables -/

/-- A table that the program's text lays, in block g. -/
def Gl.tab (k : IntKind) (zs : List Int) (g : Nat) : Gl where
  bl := fun b => b = g
  ok := fun w => ∃ t fr, w.heap[g]? = some (.cells (zs.map fun z => Value.int k z).toArray t fr)
  dep := fun w w' h ⟨t, fr, h1⟩ => ⟨t, fr, (h g rfl).trans h1⟩

theorem Gl.tab_is {k : IntKind} {zs : List Int} {g : Nat} {name : String} {w : World} (hn : P.globalNamed name = some g) (h : (Gl.tab k zs g).ok w) : Lib.TabIs P w name k zs := by
  obtain ⟨t, fr, h1⟩ := h
  unfold Lib.TabIs World.var?
  rw [hn, Option.bind_some, h1]

theorem Gl.tab_of {k : IntKind} {zs : List Int} {g : Nat} {name : String} {w : World} (hn : P.globalNamed name = some g) (h : Lib.TabIs P w name k zs) : (Gl.tab k zs g).ok w ∧ g < w.heap.size := by
  unfold Lib.TabIs World.var? at h
  rw [hn, Option.bind_some] at h
  split at h
  · rename_i cs t fr hg
    simp only [Option.some.injEq] at h
    subst h
    refine ⟨⟨t, fr, hg⟩, ?_⟩
    rcases Nat.lt_or_ge g w.heap.size with h' | h'
    · exact h'
    · rw [Array.getElem?_eq_none h'] at hg; cases hg
  · cases h

/-- A variable that holds some number. -/
def Gl.num (k : IntKind) (g : Nat) : Gl where
  bl := fun b => b = g
  ok := fun w => ∃ m, w.cell? ⟨g, 0, Option.none⟩ = some (.int k m)
  dep := fun w w' h ⟨m, h1⟩ => ⟨m, by rw [cell_same (h g rfl)]; exact h1⟩

/-- Both are told. -/
def Gl.and (G G2 : Gl) : Gl where
  bl := fun b => G.bl b ∨ G2.bl b
  ok := fun w => G.ok w ∧ G2.ok w
  dep := fun w w' h ⟨h1, h2⟩ => ⟨G.dep w w' (fun b hb => h b (.inl hb)) h1, G2.dep w w' (fun b hb => h b (.inr hb)) h2⟩

theorem below_grow (w : World) (k : Nat) (os : Array Go.Obj) : Below w.heap.size w (Sort.grow (w.drewN k) os) :=
  ⟨rfl, rfl, rfl, by simp [Sort.grow, World.drewN], fun b hb => by
    show (w.heap ++ os)[b]? = w.heap[b]?
    rw [Array.getElem?_append_left hb]⟩

/-! ### strconv.Itoa, strings.Join -/

def itoaB (n : Int) : ByteArray := ⟨(Lib.itoa n).toArray⟩

def extItoa : List V → List Obj → Option (V × List Obj × List Obj)
  | [.c (.f (.sc (.int .i64 n)))], [] => if -9223372036854775808 ≤ n ∧ n ≤ 9223372036854775807 then some (.str (itoaB n), [], []) else none
  | _, _ => none

theorem extItoa_ok {f : FuncId} (hfn : ∃ fn c, P.funcs[f]? = some fn ∧ fn.body = some c ∧ (fn.name == "runtime.NumGoroutine") = false)
    (hc : ∀ n w, -9223372036854775808 ≤ n → n ≤ 9223372036854775807 → G.ok w → Calls P f #[.int .i64 n] w fun e w' => e = .returned (.string (itoaB n)) ∧ Below w.heap.size w w') :
    ∀ args objs r, extItoa args objs = some r → FnOK G P f args objs r := by
  intro args objs r hr
  unfold extItoa at hr
  split at hr
  · rename_i n
    split at hr
    · rename_i hb
      simp only [Option.some.injEq] at hr
      subst hr
      refine FnOK.below rfl hfn fun M loc w vs hg hv => ?_
      cases vs with
      | nil => exact hv.elim
      | cons u us =>
        unfold VWs at hv
        cases us with
        | cons => exact hv.2.elim
        | nil =>
          have := hv.1.sc
          subst this
          exact hc n w hb.1 hb.2 hg
    · cases hr
  · cases hr

def joinB (l : List ByteArray) (sep : ByteArray) : ByteArray := ⟨(Lib.join (l.map (·.data.toList)) sep.data.toList).toArray⟩

def extJoin : List V → List Obj → Option (V × List Obj × List Obj)
  | [.c (.f (.sl _ .str l)), .c (.f (.sc (.string sep)))], [] => if l.length ≤ 140737488355328 ∧ (Lib.join (l.map (·.data.toList)) sep.data.toList).length ≤ 140737488355328 then some (.str (joinB l sep), [], []) else none
  | _, _ => none

theorem extJoin_ok {f : FuncId} (hfn : ∃ fn c, P.funcs[f]? = some fn ∧ fn.body = some c ∧ (fn.name == "runtime.NumGoroutine") = false)
    (h0 : ∀ a c sep w, Calls P f #[.slice a 0 c, .string sep] w fun e w' => e = .returned (.string ⟨#[]⟩) ∧ Below w.heap.size w w')
    (hc : ∀ (bk o c : Nat) (xs : List ByteArray) (sep : ByteArray) (w : World), (∀ (j : Nat) x, xs[j]? = some x → w.cell? ⟨bk, o + j, none⟩ = some (.string x)) → bk < w.heap.size → xs.length ≤ 140737488355328 → xs.length ≤ c →
      (Lib.join (xs.map (·.data.toList)) sep.data.toList).length ≤ 140737488355328 →
      Calls P f #[.slice (some ⟨bk, o, none⟩) xs.length c, .string sep] w fun e w' => e = .returned (.string (joinB xs sep)) ∧ Below w.heap.size w w') :
    ∀ args objs r, extJoin args objs = some r → FnOK G P f args objs r := by
  intro args objs r hr
  unfold extJoin at hr
  split at hr
  · rename_i t l sep
    split at hr
    · rename_i hb
      simp only [Option.some.injEq] at hr
      subst hr
      refine FnOK.below rfl hfn fun M loc w vs hg hv => ?_
      cases vs with
      | nil => exact hv.elim
      | cons u us =>
        unfold VWs at hv
        cases us with
        | nil => exact hv.2.elim
        | cons u2 us =>
          have hv2 := hv.2
          unfold VWs at hv2
          cases us with
          | cons => exact hv2.2.elim
          | nil =>
            have := hv2.1.sc
            subst this
            have h1 := hv.1
            unfold VW CW at h1
            obtain ⟨n, hn⟩ := h1
            cases n with
            | zero => exact hn.elim
            | succ n =>
              unfold CellW at hn
              obtain ⟨A, c, rfl, h2, _, h4⟩ := hn
              cases l with
              | nil =>
                refine (h0 A c sep w).mono fun e w' hh => ⟨?_, hh.2⟩
                rw [hh.1]
                rfl
              | cons x l =>
                obtain ⟨b, o, ha, _, hlt, hc0⟩ := h4 0 x rfl
                subst ha
                refine hc b o c (x :: l) sep w (fun j y hy => ?_) hlt hb.1 h2 hb.2
                obtain ⟨b', o', ha', _, _, hcj⟩ := h4 j y hy
                cases ha'
                obtain ⟨u, hu, hr⟩ := hcj 0 (.str y) rfl
                have : u = .string y := by cases n <;> exact hr.1
                subst this
                simpa [szOf] using hu
    · cases hr
  · cases hr

end
end Go.Vm
