/-
  What the machine's data stand for in the model's memory.
-/
import Derived.Test.YtgegmojoakkohaaGreatDoorVm1
import Derived.Deep.AppendSrc
namespace Go.Vm
set_option linter.unusedVariables false
set_option linter.unusedSimpArgs false

/-- A frozen cell: M: the blocks that may be written. -/
def CellW (w : World) (M : Nat → Prop) : Nat → Value → F → Prop
  | _, v, .sc u => v = u ∧ scal u = true
  | _, v, .err => ∃ T x, v = .iface T x
  | 0, _, .sl _ _ _ => False
  | 0, _, .ep _ _ _ => False
  | n + 1, v, .sl t k l => ∃ A c, v = .slice A l.length c ∧ l.length ≤ c ∧ (t = true → c = l.length) ∧
      ∀ i x, l[i]? = some x → ∃ b o, A = some ⟨b, o, none⟩ ∧ ¬ M b ∧ b < w.heap.size ∧
        ∀ j f, (cellsOf k x)[j]? = some f → ∃ u, w.cell? ⟨b, o + i * szOf k + j, none⟩ = some u ∧ CellW w M n u f
  | n + 1, v, .ep k x off => ∃ b o, v = .pointer (some ⟨b, o + off, none⟩) ∧ ¬ M b ∧ b < w.heap.size ∧
        ∀ j f, (cellsOf k x)[j]? = some f → ∃ u, w.cell? ⟨b, o + j, none⟩ = some u ∧ CellW w M n u f

/-- An element, from an address on. -/
def ElemW (w : World) (M : Nat → Prop) (n : Nat) (b o : Nat) (k : Kind) (x : El k) : Prop :=
  ¬ M b ∧ b < w.heap.size ∧ ∀ j f, (cellsOf k x)[j]? = some f → ∃ u, w.cell? ⟨b, o + j, none⟩ = some u ∧ CellW w M n u f

theorem CellW.succ {w : World} {M : Nat → Prop} : ∀ {n : Nat} {v : Value} {f : F}, CellW w M n v f → CellW w M (n + 1) v f
  | 0, v, .sc u, h => h
  | 0, v, .err, h => h
  | n + 1, v, .sc u, h => h
  | n + 1, v, .err, h => h
  | n + 1, v, .sl t k l, ⟨A, c, h1, h2, h3, h4⟩ => ⟨A, c, h1, h2, h3, fun i x hx => by
      obtain ⟨b, o, ha, hm, hb, hc⟩ := h4 i x hx
      exact ⟨b, o, ha, hm, hb, fun j f hf => by obtain ⟨u, hu, hr⟩ := hc j f hf; exact ⟨u, hu, CellW.succ hr⟩⟩⟩
  | n + 1, v, .ep k x off, ⟨b, o, h1, hm, hb, hc⟩ => ⟨b, o, h1, hm, hb, fun j f hf => by obtain ⟨u, hu, hr⟩ := hc j f hf; exact ⟨u, hu, CellW.succ hr⟩⟩

theorem CellW.le {w : World} {M : Nat → Prop} {n m : Nat} {v : Value} {f : F} (h : CellW w M n v f) (hm : n ≤ m) : CellW w M m v f := by
  induction hm with
  | refl => exact h
  | step _ ih => exact ih.succ

/-- Memory that may not be written is as it was, and still may not be. -/
structure Keeps (w : World) (M : Nat → Prop) (w' : World) (M' : Nat → Prop) : Prop where
  size : w.heap.size ≤ w'.heap.size
  same : ∀ b, b < w.heap.size → ¬ M b → ¬ M' b ∧ w'.heap[b]? = w.heap[b]?

theorem cell_same {w w' : World} {b o : Nat} (h : w'.heap[b]? = w.heap[b]?) : w'.cell? ⟨b, o, none⟩ = w.cell? ⟨b, o, none⟩ := by
  unfold World.cell?; simp only [h]

theorem CellW.keeps {w w' : World} {M M' : Nat → Prop} (hk : Keeps w M w' M') : ∀ {n : Nat} {v : Value} {f : F}, CellW w M n v f → CellW w' M' n v f
  | 0, v, .sc u, h => h
  | 0, v, .err, h => h
  | n + 1, v, .sc u, h => h
  | n + 1, v, .err, h => h
  | n + 1, v, .sl t k l, ⟨A, c, h1, h2, h3, h4⟩ => ⟨A, c, h1, h2, h3, fun i x hx => by
      obtain ⟨b, o, ha, hm, hb, hc⟩ := h4 i x hx
      have hs := hk.same b hb hm
      exact ⟨b, o, ha, hs.1, Nat.lt_of_lt_of_le hb hk.size, fun j f hf => by
        obtain ⟨u, hu, hr⟩ := hc j f hf
        exact ⟨u, (cell_same hs.2).trans hu, CellW.keeps hk hr⟩⟩⟩
  | n + 1, v, .ep k x off, ⟨b, o, h1, hm, hb, hc⟩ => ⟨b, o, h1, (hk.same b hb hm).1, Nat.lt_of_lt_of_le hb hk.size, fun j f hf => by
      obtain ⟨u, hu, hr⟩ := hc j f hf
      exact ⟨u, (cell_same (hk.same b hb hm).2).trans hu, CellW.keeps hk hr⟩⟩

theorem CellW.one {w : World} {M : Nat → Prop} : ∀ {n : Nat} {v : Value} {f : F}, CellW w M n v f → v.oneCell' = true
  | 0, v, .sc u, ⟨h, h2⟩ => by subst h; cases v <;> first | rfl | simp [scal] at h2
  | n + 1, v, .sc u, ⟨h, h2⟩ => by subst h; cases v <;> first | rfl | simp [scal] at h2
  | 0, v, .err, ⟨_, _, h⟩ => by subst h; rfl
  | n + 1, v, .err, ⟨_, _, h⟩ => by subst h; rfl
  | n + 1, v, .sl t k l, ⟨A, c, h1, _⟩ => by subst h1; rfl
  | n + 1, v, .ep k x off, ⟨b, o, h1, _⟩ => by subst h1; rfl

/-- A slice that is told to be tight may be told not to be. -/
theorem CellW.loose {w : World} {M : Nat → Prop} : ∀ {n : Nat} {v : Value} {t : Bool} {k : Kind} {l : List (El k)}, CellW w M n v (.sl t k l) → CellW w M n v (.sl false k l)
  | n + 1, v, t, k, l, ⟨A, c, h1, h2, _, h4⟩ => ⟨A, c, h1, h2, fun h => by simp at h, h4⟩

/-- Where objects lie: block and capacity (of a row). -/
abbrev Loc := Id → Option (Nat × Nat)

mutual
/-- A cell. -/
def CW (w : World) (M : Nat → Prop) (h : Hp) (loc : Loc) : Value → C → Prop
  | v, .f x => ∃ n, CellW w M n v x
  | v, .bx id off => (∃ cs, h id = some (.box cs)) ∧ ∃ b c, loc id = some (b, c) ∧ v = .pointer (some ⟨b, off, none⟩)
  | v, .row id k => (∃ A n c, v = .slice A n c) ∧ (h id).isSome = true ∧ ∀ wr k' l, h id = some (.row wr k' l) → k' = k ∧
      (∀ b c, loc id = some (b, c) → v = .slice (some ⟨b, 0, none⟩) l.length c) ∧ (loc id = none → ∃ n, CellW w M n v (.sl true k' l))
  | v, .re id k i off => (h id).isSome = true ∧ (∀ wr k' l, h id = some (.row wr k' l) → k' = k) ∧ ∃ b c, loc id = some (b, c) ∧ v = .pointer (some ⟨b, i * szOf k + off, none⟩)
  | v, .fn f caps => ∃ us : List Value, v = .func (.func f) #[] us.toArray ∧ CWs w M h loc us caps
  | _, .hole => True
  | v, .und => v = undef
def CWs (w : World) (M : Nat → Prop) (h : Hp) (loc : Loc) : List Value → List C → Prop
  | [], [] => True
  | v :: vs, c :: cs => CW w M h loc v c ∧ CWs w M h loc vs cs
  | _, _ => False
end

mutual
def VW (w : World) (M : Nat → Prop) (h : Hp) (loc : Loc) : Value → V → Prop
  | v, .c x => CW w M h loc v x
  | v, .agg cs => ∃ us : List Value, v = .agg us.toArray ∧ CWs w M h loc us cs
  | v, .tup vs => ∃ us : List Value, v = .tuple us.toArray ∧ VWs w M h loc us vs
def VWs (w : World) (M : Nat → Prop) (h : Hp) (loc : Loc) : List Value → List V → Prop
  | [], [] => True
  | v :: vs, c :: cs => VW w M h loc v c ∧ VWs w M h loc vs cs
  | _, _ => False
end

def Obj.live : Obj → Bool
  | .dead => false
  | _ => true

/-- The blocks that may be written: what the caller keeps to itself, and the objects'. -/
def Mut (U : Nat → Prop) (h : Hp) (loc : Loc) (b : Nat) : Prop :=
  U b ∨ ∃ id o c, h id = some o ∧ o.live = true ∧ loc id = some (b, c)

/-- An object. -/
def OW (w : World) (M : Nat → Prop) (h : Hp) (loc : Loc) (id : Id) : Obj → Prop
  | .box cs => ∃ b c us T, loc id = some (b, c) ∧ w.heap[b]? = some (.cells us T (0, 0)) ∧ CWs w M h loc us.toList cs
  | .row wr k l => (loc id = none → wr = true → l = []) ∧ ∀ b c, loc id = some (b, c) → ∃ us T, w.heap[b]? = some (.cells us T (0, 0)) ∧ us.size = c * szOf k ∧ l.length ≤ c ∧
      ∀ i x j f, l[i]? = some x → (cellsOf k x)[j]? = some f → ∃ u n, us[i * szOf k + j]? = some u ∧ CellW w M n u f
  | .dead => True

/-- What is told of memory that nobody writes: which blocks, and what. -/
structure Gl where
  bl : Nat → Prop
  ok : World → Prop
  dep : ∀ w w', (∀ b, bl b → w'.heap[b]? = w.heap[b]?) → ok w → ok w'

/-- Nothing is told. -/
def Gl.none : Gl := ⟨fun _ => False, fun _ => True, fun _ _ _ _ => trivial⟩

/-- It holds; and the blocks are kept: nobody writes them, or the caller keeps them to itself. -/
def Gl.In (G : Gl) (U : Nat → Prop) (h : Hp) (loc : Loc) (w : World) : Prop := G.ok w ∧ ∀ b, G.bl b → b < w.heap.size ∧ (U b ∨ ¬ Mut U h loc b)

/-- The table of objects stands for what lies in memory. -/
structure HW (G : Gl) (U : Nat → Prop) (h : Hp) (loc : Loc) (w : World) : Prop where
  obj : ∀ id o, h id = some o → OW w (Mut U h loc) h loc id o
  inj : ∀ id id' o o' b c c', h id = some o → o.live = true → h id' = some o' → o'.live = true → loc id = some (b, c) → loc id' = some (b, c') → id = id'
  sep : ∀ id o b c, h id = some o → o.live = true → loc id = some (b, c) → ¬ U b ∧ b < w.heap.size
  low : ∀ b, U b → b < w.heap.size
  gl : G.In U h loc w

/-- What may become of an object. -/
def Turns (loc : Loc) (id : Id) : Obj → Obj → Prop
  | .box _, .box _ => True
  | .row wr k l, .row wr' k' l' => wr' = wr ∧ k' = k ∧ l'.length = l.length ∧ (loc id = none → Obj.row wr' k' l' = Obj.row wr k l)
  | .row _ _ _, .dead => True
  | .dead, .dead => True
  | _, _ => False

/-- From one state of memory to a later one. -/
structure Ext (U : Nat → Prop) (h : Hp) (loc : Loc) (w : World) (h' : Hp) (loc' : Loc) (w' : World) : Prop where
  os : w'.os = w.os
  tape : w'.tape = w.tape
  output : w'.output = w.output
  keeps : Keeps w (Mut U h loc) w' (Mut U h' loc')
  lc : ∀ id o, h id = some o → loc' id = loc id
  ent : ∀ id o, h id = some o → ∃ o', h' id = some o' ∧ Turns loc id o o'
  old : ∀ b, b < w.heap.size → U b → w'.heap[b]? = w.heap[b]?

theorem Turns.refl (loc : Loc) (id : Id) (o : Obj) : Turns loc id o o := by
  cases o <;> simp [Turns]

theorem Turns.dead {loc : Loc} {id : Id} {o o' : Obj} (h : Turns loc id o o') (hd : o.live = false) : o' = .dead := by
  cases o <;> simp [Obj.live] at hd
  cases o' <;> simp [Turns] at h ⊢

theorem Turns.live {loc : Loc} {id : Id} {o o' : Obj} (h : Turns loc id o o') (hd : o'.live = true) : o.live = true := by
  cases o <;> simp [Obj.live]
  cases o' <;> simp [Turns, Obj.live] at h hd

theorem Turns.trans {loc loc' : Loc} {id : Id} {a b c : Obj} (h : Turns loc id a b) (h' : Turns loc' id b c) (hl : b.live = true → loc' id = loc id) : Turns loc id a c := by
  cases c with
  | dead => cases b <;> simp [Turns] at h' <;> cases a <;> simp [Turns] at h ⊢
  | box cs => cases b <;> simp [Turns] at h' <;> cases a <;> simp [Turns] at h ⊢
  | row wr k l =>
    cases b <;> simp [Turns] at h'
    cases a <;> simp [Turns] at h
    obtain ⟨rfl, rfl, h1, h2⟩ := h
    obtain ⟨rfl, rfl, h3, h4⟩ := h'
    refine ⟨rfl, rfl, h3.trans h1, fun hn => ?_⟩
    have := hl rfl
    have e1 := h2 hn
    have e2 := h4 (this.trans hn)
    simp at e1 e2 ⊢
    rw [e2, e1]

theorem Ext.refl (U : Nat → Prop) (h : Hp) (loc : Loc) (w : World) : Ext U h loc w h loc w :=
  ⟨rfl, rfl, rfl, ⟨Nat.le_refl _, fun _ _ hm => ⟨hm, rfl⟩⟩, fun _ _ _ => rfl, fun id o ho => ⟨o, ho, Turns.refl _ _ _⟩, fun _ _ _ => rfl⟩

theorem Ext.trans {U : Nat → Prop} {h h1 h2 : Hp} {loc loc1 loc2 : Loc} {w w1 w2 : World} (a : Ext U h loc w h1 loc1 w1) (b : Ext U h1 loc1 w1 h2 loc2 w2) : Ext U h loc w h2 loc2 w2 := by
  refine ⟨b.os.trans a.os, b.tape.trans a.tape, b.output.trans a.output, ⟨Nat.le_trans a.keeps.size b.keeps.size, fun k hk hm => ?_⟩, ?_, ?_, fun k hk hu => ?_⟩
  · have h1 := a.keeps.same k hk hm
    have h2 := b.keeps.same k (Nat.lt_of_lt_of_le hk a.keeps.size) h1.1
    exact ⟨h2.1, h2.2.trans h1.2⟩
  · intro id o ho
    obtain ⟨o1, ho1, t1⟩ := a.ent id o ho
    rw [b.lc id o1 ho1, a.lc id o ho]
  · intro id o ho
    obtain ⟨o1, ho1, t1⟩ := a.ent id o ho
    obtain ⟨o2, ho2, t2⟩ := b.ent id o1 ho1
    exact ⟨o2, ho2, t1.trans t2 (fun hl => a.lc id o ho)⟩
  · rw [b.old k (Nat.lt_of_lt_of_le hk a.keeps.size) hu, a.old k hk hu]

mutual
theorem CW.ext {U : Nat → Prop} {h h' : Hp} {loc loc' : Loc} {w w' : World} (e : Ext U h loc w h' loc' w') : ∀ (c : C) {v : Value}, CW w (Mut U h loc) h loc v c → CW w' (Mut U h' loc') h' loc' v c
  | .f x, v, hc => by
    unfold CW at hc ⊢
    obtain ⟨n, hn⟩ := hc
    exact ⟨n, hn.keeps e.keeps⟩
  | .bx id off, v, hc => by
    unfold CW at hc ⊢
    obtain ⟨⟨ds, ho⟩, b, c, hb, hv⟩ := hc
    obtain ⟨o', ho', ht⟩ := e.ent id _ ho
    cases o' with
    | box cs => exact ⟨⟨cs, ho'⟩, b, c, by rw [e.lc id _ ho]; exact hb, hv⟩
    | row => simp [Turns] at ht
    | dead => simp [Turns] at ht
  | .row id k, v, hc => by
    unfold CW at hc ⊢
    obtain ⟨hsh, h1, h2⟩ := hc
    obtain ⟨o, ho⟩ := Option.isSome_iff_exists.1 h1
    obtain ⟨o', ho', ht⟩ := e.ent id o ho
    refine ⟨hsh, by rw [ho']; rfl, fun wr k' l hcs => ?_⟩
    rw [ho'] at hcs
    obtain rfl := Option.some.inj hcs
    cases o with
    | box ds => simp [Turns] at ht
    | dead => simp [Turns] at ht
    | row wr0 k0 l0 =>
      obtain ⟨rfl, rfl, hl, hn⟩ := ht
      obtain ⟨rfl, h3, h4⟩ := h2 _ _ _ ho
      have hloc := e.lc id _ ho
      refine ⟨rfl, fun b c hb => ?_, fun hb => ?_⟩
      · rw [hloc] at hb; rw [hl]; exact h3 b c hb
      · rw [hloc] at hb
        have := hn hb
        simp at this
        subst this
        obtain ⟨n, hn⟩ := h4 hb
        exact ⟨n, hn.keeps e.keeps⟩
  | .re id k i off, v, hc => by
    unfold CW at hc ⊢
    obtain ⟨h1, h2, b, c, hb, hv⟩ := hc
    obtain ⟨o, ho⟩ := Option.isSome_iff_exists.1 h1
    obtain ⟨o', ho', ht⟩ := e.ent id o ho
    refine ⟨by rw [ho']; rfl, fun wr k' l hcs => ?_, b, c, by rw [e.lc id _ ho]; exact hb, hv⟩
    rw [ho'] at hcs
    obtain rfl := Option.some.inj hcs
    cases o with
    | box ds => simp [Turns] at ht
    | dead => simp [Turns] at ht
    | row wr0 k0 l0 =>
      obtain ⟨rfl, rfl, hl, hn⟩ := ht
      exact h2 _ _ _ ho
  | .fn f caps, v, hc => by
    unfold CW at hc ⊢
    obtain ⟨us, hv, hs⟩ := hc
    exact ⟨us, hv, CWs.ext e caps hs⟩
  | .hole, v, hc => by unfold CW; trivial
  | .und, v, hc => by unfold CW at hc ⊢; exact hc
theorem CWs.ext {U : Nat → Prop} {h h' : Hp} {loc loc' : Loc} {w w' : World} (e : Ext U h loc w h' loc' w') : ∀ (cs : List C) {vs : List Value}, CWs w (Mut U h loc) h loc vs cs → CWs w' (Mut U h' loc') h' loc' vs cs
  | [], [], _ => by unfold CWs; trivial
  | [], _ :: _, hc => by unfold CWs at hc; exact hc.elim
  | c :: cs, [], hc => by unfold CWs at hc; exact hc.elim
  | c :: cs, v :: vs, hc => by unfold CWs at hc ⊢; exact ⟨CW.ext e c hc.1, CWs.ext e cs hc.2⟩
end

mutual
theorem VW.ext {U : Nat → Prop} {h h' : Hp} {loc loc' : Loc} {w w' : World} (e : Ext U h loc w h' loc' w') : ∀ (c : V) {v : Value}, VW w (Mut U h loc) h loc v c → VW w' (Mut U h' loc') h' loc' v c
  | .c x, v, hc => by unfold VW at hc ⊢; exact CW.ext e x hc
  | .agg cs, v, hc => by
    unfold VW at hc ⊢
    obtain ⟨us, hv, hs⟩ := hc
    exact ⟨us, hv, CWs.ext e cs hs⟩
  | .tup vs, v, hc => by
    unfold VW at hc ⊢
    obtain ⟨us, hv, hs⟩ := hc
    exact ⟨us, hv, VWs.ext e vs hs⟩
theorem VWs.ext {U : Nat → Prop} {h h' : Hp} {loc loc' : Loc} {w w' : World} (e : Ext U h loc w h' loc' w') : ∀ (cs : List V) {vs : List Value}, VWs w (Mut U h loc) h loc vs cs → VWs w' (Mut U h' loc') h' loc' vs cs
  | [], [], _ => by unfold VWs; trivial
  | [], _ :: _, hc => by unfold VWs at hc; exact hc.elim
  | c :: cs, [], hc => by unfold VWs at hc; exact hc.elim
  | c :: cs, v :: vs, hc => by unfold VWs at hc ⊢; exact ⟨VW.ext e c hc.1, VWs.ext e cs hc.2⟩
end

end Go.Vm

namespace Go.Vm
variable {G : Gl}
set_option linter.unusedVariables false
set_option linter.unusedSimpArgs false

theorem Id.beq_true {a b : Id} : Id.beq a b = true ↔ a = b := by
  cases a <;> cases b <;> simp [Id.beq]

theorem Id.beq_self (a : Id) : Id.beq a a = true := Id.beq_true.2 rfl

theorem Id.beq_ne {a b : Id} (h : a ≠ b) : Id.beq a b = false := by
  cases hb : Id.beq a b with
  | false => rfl
  | true => exact absurd (Id.beq_true.1 hb) h

theorem hput_self (h : Hp) (i : Id) (o : Obj) : hput h i o i = some o := by simp [hput, Id.beq_self]
theorem hput_ne (h : Hp) {i j : Id} (o : Obj) (hn : j ≠ i) : hput h i o j = h j := by simp [hput, Id.beq_ne hn]

theorem upd_self (fr : Fr) (d : Nat) (v : V) : upd fr d v d = v := by simp [upd]
theorem upd_ne (fr : Fr) {d t : Nat} (v : V) (h : t ≠ d) : upd fr d v t = fr t := by
  have : Nat.beq t d = false := by cases hb : Nat.beq t d with | false => rfl | true => exact absurd (Nat.eq_of_beq_eq_true hb) h
  simp [upd, this]

def lput (loc : Loc) (i : Id) (p : Option (Nat × Nat)) : Loc := fun j => bif Id.beq j i then p else loc j
theorem lput_self (loc : Loc) (i : Id) (p : Option (Nat × Nat)) : lput loc i p i = p := by simp [lput, Id.beq_self]
theorem lput_ne (loc : Loc) {i j : Id} (p : Option (Nat × Nat)) (hn : j ≠ i) : lput loc i p j = loc j := by simp [lput, Id.beq_ne hn]

theorem OW.ext {U : Nat → Prop} {h h' : Hp} {loc loc' : Loc} {w w' : World} (e : Ext U h loc w h' loc' w') {id : Id} : ∀ {o : Obj}, OW w (Mut U h loc) h loc id o →
    (o.live = true → loc' id = loc id) → (∀ b c, o.live = true → loc id = some (b, c) → w'.heap[b]? = w.heap[b]?) → OW w' (Mut U h' loc') h' loc' id o
  | .box cs, ⟨b, c, us, T, hl, hb, hc⟩, h1, h2 => ⟨b, c, us, T, by rw [h1 rfl]; exact hl, by rw [h2 b c rfl hl]; exact hb, CWs.ext e cs hc⟩
  | .row wr k l, ⟨ha, hb⟩, h1, h2 => by
    refine ⟨fun hn => ha (by rw [← h1 rfl]; exact hn), fun b c hl => ?_⟩
    rw [h1 rfl] at hl
    obtain ⟨us, T, h3, h4, h5, h6⟩ := hb b c hl
    exact ⟨us, T, by rw [h2 b c rfl hl]; exact h3, h4, h5, fun i x j f hx hf => by
      obtain ⟨u, n, hu, hr⟩ := h6 i x j f hx hf
      exact ⟨u, n, hu, hr.keeps e.keeps⟩⟩
  | .dead, _, _, _ => trivial

theorem Gl.In.step {G : Gl} {U : Nat → Prop} {h h' : Hp} {loc loc' : Loc} {w w' : World} (hg : G.In U h loc w) (e : Ext U h loc w h' loc' w') : G.In U h' loc' w' := by
  refine ⟨G.dep _ _ (fun b hb => ?_) hg.1, fun b hb => ?_⟩
  · obtain ⟨hlt, hu | hm⟩ := hg.2 b hb
    · exact e.old b hlt hu
    · exact (e.keeps.same b hlt hm).2
  · obtain ⟨hlt, hu | hm⟩ := hg.2 b hb
    · exact ⟨Nat.lt_of_lt_of_le hlt e.keeps.size, .inl hu⟩
    · exact ⟨Nat.lt_of_lt_of_le hlt e.keeps.size, .inr (e.keeps.same b hlt hm).1⟩

/-- A table of objects behind a step: each object is as it was, or is told anew. -/
theorem HW.step {U : Nat → Prop} {h h' : Hp} {loc loc' : Loc} {w w' : World} (hw : HW G U h loc w) (e : Ext U h loc w h' loc' w')
    (hobj : ∀ id o, h' id = some o → (h id = some o ∧ (o.live = true → loc' id = loc id) ∧ ∀ b c, o.live = true → loc id = some (b, c) → w'.heap[b]? = w.heap[b]?) ∨ OW w' (Mut U h' loc') h' loc' id o)
    (inj : ∀ id id' o o' b c c', h' id = some o → o.live = true → h' id' = some o' → o'.live = true → loc' id = some (b, c) → loc' id' = some (b, c') → id = id')
    (sep : ∀ id o b c, h' id = some o → o.live = true → loc' id = some (b, c) → ¬ U b ∧ b < w'.heap.size) : HW G U h' loc' w' :=
  ⟨fun id o ho => (hobj id o ho).elim (fun ⟨h1, h2, h3⟩ => OW.ext e (hw.obj id o h1) h2 h3) id_, inj, sep, fun b hb => Nat.lt_of_lt_of_le (hw.low b hb) e.keeps.size, hw.gl.step e⟩
where id_ {p : Prop} (x : p) : p := x

/-- The heap is the same. -/
theorem Ext.of_heap {U : Nat → Prop} {h : Hp} {loc : Loc} {w w' : World} (hh : w'.heap = w.heap) (h1 : w'.os = w.os) (h2 : w'.tape = w.tape) (h3 : w'.output = w.output) : Ext U h loc w h loc w' :=
  ⟨h1, h2, h3, ⟨by rw [hh]; exact Nat.le_refl _, fun _ _ hm => ⟨hm, by rw [hh]⟩⟩, fun _ _ _ => rfl, fun id o ho => ⟨o, ho, Turns.refl _ _ _⟩, fun _ _ _ => by rw [hh]⟩

theorem HW.of_heap {U : Nat → Prop} {h : Hp} {loc : Loc} {w w' : World} (hw : HW G U h loc w) (hh : w'.heap = w.heap) (h1 : w'.os = w.os) (h2 : w'.tape = w.tape) (h3 : w'.output = w.output) : HW G U h loc w' :=
  hw.step (Ext.of_heap hh h1 h2 h3) (fun id o ho => .inl ⟨ho, fun _ => rfl, fun _ _ _ _ => by rw [hh]⟩) hw.inj (fun id o b c ho hl hb => by rw [hh]; exact hw.sep id o b c ho hl hb)

theorem Ext.drew (U : Nat → Prop) (h : Hp) (loc : Loc) (w : World) : Ext U h loc w h loc { w with drawn := w.drawn + 1 } := Ext.of_heap rfl rfl rfl rfl
theorem HW.drew {U : Nat → Prop} {h : Hp} {loc : Loc} {w : World} (hw : HW G U h loc w) : HW G U h loc { w with drawn := w.drawn + 1 } := hw.of_heap rfl rfl rfl rfl

/-- A new object. -/
theorem Ext.alloc {U : Nat → Prop} {h : Hp} {loc : Loc} {w : World} (hw : HW G U h loc w) {id : Id} (hn : h id = none) (o : Obj) (x : Go.Obj) (c : Nat) :
    Ext U h loc w (hput h id o) (lput loc id (some (w.heap.size, c))) (w.alloc x) := by
  refine ⟨rfl, rfl, rfl, ⟨by simp, fun b hb hm => ⟨?_, Go.RowKit.Below.heap_alloc w x b hb⟩⟩, ?_, ?_, fun b hb _ => Go.RowKit.Below.heap_alloc w x b hb⟩
  · rintro (hu | ⟨id', o', c', ho', hl, hloc⟩)
    · exact hm (.inl hu)
    · by_cases hid : id' = id
      · subst hid
        rw [lput_self] at hloc
        simp at hloc
        omega
      · rw [hput_ne _ _ hid] at ho'
        rw [lput_ne _ _ hid] at hloc
        exact hm (.inr ⟨id', o', c', ho', hl, hloc⟩)
  · intro id' o1 h1
    have hid : id' ≠ id := by rintro rfl; rw [hn] at h1; cases h1
    rw [lput_ne _ _ hid]
  · intro id' o1 h1
    have hid : id' ≠ id := by rintro rfl; rw [hn] at h1; cases h1
    exact ⟨o1, by rw [hput_ne _ _ hid]; exact h1, Turns.refl _ _ _⟩

theorem HW.alloc {U : Nat → Prop} {h : Hp} {loc : Loc} {w : World} (hw : HW G U h loc w) {id : Id} (hn : h id = none) (o : Obj) (x : Go.Obj) (c : Nat)
    (ho : OW (w.alloc x) (Mut U (hput h id o) (lput loc id (some (w.heap.size, c)))) (hput h id o) (lput loc id (some (w.heap.size, c))) id o) :
    HW G U (hput h id o) (lput loc id (some (w.heap.size, c))) (w.alloc x) := by
  refine hw.step (Ext.alloc hw hn o x c) ?_ ?_ ?_
  · intro id' o' ho'
    by_cases hid : id' = id
    · subst hid
      rw [hput_self] at ho'
      obtain rfl := Option.some.inj ho'
      exact .inr ho
    · rw [hput_ne _ _ hid] at ho'
      exact .inl ⟨ho', fun _ => lput_ne _ _ hid, fun b c hl hb => Go.RowKit.Below.heap_alloc w x b (hw.sep id' o' b c ho' hl hb).2⟩
  · intro i1 i2 o1 o2 b c1 c2 h1 l1 h2 l2 b1 b2
    by_cases e1 : i1 = id <;> by_cases e2 : i2 = id
    · rw [e1, e2]
    · subst e1
      rw [lput_self] at b1
      rw [lput_ne _ _ e2] at b2
      rw [hput_ne _ _ e2] at h2
      have := (hw.sep i2 o2 b c2 h2 l2 b2).2
      simp at b1
      omega
    · subst e2
      rw [lput_self] at b2
      rw [lput_ne _ _ e1] at b1
      rw [hput_ne _ _ e1] at h1
      have := (hw.sep i1 o1 b c1 h1 l1 b1).2
      simp at b2
      omega
    · rw [hput_ne _ _ e1] at h1
      rw [hput_ne _ _ e2] at h2
      rw [lput_ne _ _ e1] at b1
      rw [lput_ne _ _ e2] at b2
      exact hw.inj i1 i2 o1 o2 b c1 c2 h1 l1 h2 l2 b1 b2
  · intro i o' b c' ho' hl hb
    by_cases e1 : i = id
    · subst e1
      rw [lput_self] at hb
      simp at hb
      obtain ⟨rfl, rfl⟩ := hb
      refine ⟨fun hu => ?_, by simp⟩
      have := hw.low _ hu
      omega
    · rw [hput_ne _ _ e1] at ho'
      rw [lput_ne _ _ e1] at hb
      have := hw.sep i o' b c' ho' hl hb
      exact ⟨this.1, by simp; omega⟩

/-- An object whose block is written: it turns. -/
theorem Ext.turn {U : Nat → Prop} {h : Hp} {loc : Loc} {w w' : World} {id : Id} {o o' : Obj} (ho : h id = some o) (hl : o.live = true) (ht : Turns loc id o o') {b c : Nat} (hb : loc id = some (b, c))
    (hs : w'.heap.size = w.heap.size) (hsame : ∀ k, k ≠ b → w'.heap[k]? = w.heap[k]?) (hU : ¬ U b) (h1 : w'.os = w.os) (h2 : w'.tape = w.tape) (h3 : w'.output = w.output) :
    Ext U h loc w (hput h id o') loc w' := by
  refine ⟨h1, h2, h3, ⟨by omega, fun k hk hm => ?_⟩, fun _ _ _ => rfl, ?_, fun k hk hu => hsame k (fun e => hU (e ▸ hu))⟩
  · have hne : k ≠ b := by rintro rfl; exact hm (.inr ⟨id, o, c, ho, hl, hb⟩)
    refine ⟨?_, hsame k hne⟩
    rintro (hu | ⟨i, o2, c2, ho2, hl2, hb2⟩)
    · exact hm (.inl hu)
    · by_cases e : i = id
      · subst e
        rw [hb] at hb2
        simp at hb2
        exact hne hb2.1.symm
      · rw [hput_ne _ _ e] at ho2
        exact hm (.inr ⟨i, o2, c2, ho2, hl2, hb2⟩)
  · intro i o1 h4
    by_cases e : i = id
    · subst e
      rw [ho] at h4
      obtain rfl := Option.some.inj h4
      exact ⟨o', hput_self _ _ _, ht⟩
    · exact ⟨o1, by rw [hput_ne _ _ e]; exact h4, Turns.refl _ _ _⟩

theorem HW.turn {U : Nat → Prop} {h : Hp} {loc : Loc} {w w' : World} (hw : HW G U h loc w) {id : Id} {o o' : Obj} (ho : h id = some o) (hl : o.live = true) (ht : Turns loc id o o') {b c : Nat} (hb : loc id = some (b, c))
    (hs : w'.heap.size = w.heap.size) (hsame : ∀ k, k ≠ b → w'.heap[k]? = w.heap[k]?) (h1 : w'.os = w.os) (h2 : w'.tape = w.tape) (h3 : w'.output = w.output)
    (hO : OW w' (Mut U (hput h id o') loc) (hput h id o') loc id o') : HW G U (hput h id o') loc w' := by
  have hU := (hw.sep id o b c ho hl hb).1
  refine hw.step (Ext.turn ho hl ht hb hs hsame hU h1 h2 h3) ?_ ?_ ?_
  · intro i o2 h4
    by_cases e : i = id
    · subst e
      rw [hput_self] at h4
      obtain rfl := Option.some.inj h4
      exact .inr hO
    · rw [hput_ne _ _ e] at h4
      refine .inl ⟨h4, fun _ => rfl, fun b2 c2 hl2 hb2 => hsame b2 ?_⟩
      rintro rfl
      exact e (hw.inj i id o2 o b2 c2 c h4 hl2 ho hl hb2 hb)
  · intro i1 i2 o1 o2 b0 c1 c2 h5 l1 h6 l2 b1 b2
    have f : ∀ i oo, hput h id o' i = some oo → oo.live = true → ∃ o3, h i = some o3 ∧ o3.live = true := by
      intro i oo h7 h8
      by_cases e : i = id
      · subst e; exact ⟨o, ho, hl⟩
      · rw [hput_ne _ _ e] at h7; exact ⟨oo, h7, h8⟩
    obtain ⟨o3, h9, h10⟩ := f i1 o1 h5 l1
    obtain ⟨o4, h11, h12⟩ := f i2 o2 h6 l2
    exact hw.inj i1 i2 o3 o4 b0 c1 c2 h9 h10 h11 h12 b1 b2
  · intro i oo b0 c0 h7 h8 h9
    rw [hs]
    by_cases e : i = id
    · subst e
      exact hw.sep i o b0 c0 ho hl h9
    · rw [hput_ne _ _ e] at h7
      exact hw.sep i oo b0 c0 h7 h8 h9

/-- An object is gone: its block is never written again. -/
theorem Ext.kill {U : Nat → Prop} {h : Hp} {loc : Loc} {w : World} {id : Id} {wr : Bool} {kk : Kind} {ll : List (El kk)} (ho : h id = some (.row wr kk ll)) : Ext U h loc w (hput h id .dead) loc w := by
  refine ⟨rfl, rfl, rfl, ⟨Nat.le_refl _, fun k hk hm => ⟨?_, rfl⟩⟩, fun _ _ _ => rfl, ?_, fun _ _ _ => rfl⟩
  · rintro (hu | ⟨i, o2, c2, ho2, hl2, hb2⟩)
    · exact hm (.inl hu)
    · by_cases e : i = id
      · subst e
        rw [hput_self] at ho2
        obtain rfl := Option.some.inj ho2
        simp [Obj.live] at hl2
      · rw [hput_ne _ _ e] at ho2
        exact hm (.inr ⟨i, o2, c2, ho2, hl2, hb2⟩)
  · intro i o1 h4
    by_cases e : i = id
    · subst e
      rw [ho] at h4
      obtain rfl := Option.some.inj h4
      exact ⟨.dead, hput_self _ _ _, by simp [Turns]⟩
    · exact ⟨o1, by rw [hput_ne _ _ e]; exact h4, Turns.refl _ _ _⟩

theorem HW.kill {U : Nat → Prop} {h : Hp} {loc : Loc} {w : World} (hw : HW G U h loc w) {id : Id} {wr : Bool} {kk : Kind} {ll : List (El kk)} (ho : h id = some (.row wr kk ll)) : HW G U (hput h id .dead) loc w := by
  have f : ∀ i oo, hput h id .dead i = some oo → oo.live = true → i ≠ id ∧ h i = some oo := by
    intro i oo h7 h8
    by_cases e : i = id
    · subst e
      rw [hput_self] at h7
      obtain rfl := Option.some.inj h7
      simp [Obj.live] at h8
    · rw [hput_ne _ _ e] at h7; exact ⟨e, h7⟩
  refine hw.step (Ext.kill ho) ?_ ?_ ?_
  · intro i o2 h4
    by_cases e : i = id
    · subst e
      rw [hput_self] at h4
      obtain rfl := Option.some.inj h4
      exact .inr trivial
    · rw [hput_ne _ _ e] at h4
      exact .inl ⟨h4, fun _ => rfl, fun _ _ _ _ => rfl⟩
  · intro i1 i2 o1 o2 b0 c1 c2 h5 l1 h6 l2 b1 b2
    exact hw.inj i1 i2 o1 o2 b0 c1 c2 (f _ _ h5 l1).2 l1 (f _ _ h6 l2).2 l2 b1 b2
  · intro i oo b0 c0 h7 h8 h9
    exact hw.sep i oo b0 c0 (f _ _ h7 h8).2 h8 h9

end Go.Vm
