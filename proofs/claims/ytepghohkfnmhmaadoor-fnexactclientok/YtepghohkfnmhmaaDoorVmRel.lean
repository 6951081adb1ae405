/-
  What the machine's data stand for in the model's memory.
-/
import Derived.Test.YtepghohkfnmhmaaDoorVmDef
import Derived.Deep.AppendSrc
namespace Go.Vm
set_option linter.unusedVariables false
set_option linter.unusedSimpArgs false

/-- A frozen cell: M: the blocks that may be written. -/
def CellW (w : World) (M : Nat → Prop) : Nat → Value → F → Prop
  | _, v, .sc u => v = u ∧ scal u = true
  | _, v, .err => ∃ T x, v = .iface T x
  | 0, _, .sl _ _ _ => False
  | 0, _, .ep _ _ _ => False
  | n + 1, v, .sl t k l => ∃ A c, v = .slice A l.length c ∧ l.length ≤ c ∧ (t = true → c = l.length) ∧
      ∀ i x, l[i]? = some x → ∃ b o, A = some ⟨b, o, none⟩ ∧ ¬ M b ∧ b < w.heap.size ∧
        ∀ j f, (cellsOf k x)[j]? = some f → ∃ u, w.cell? ⟨b, o + i * szOf k + j, none⟩ = some u ∧ CellW w M n u f
  | n + 1, v, .ep k x off => ∃ b o, v = .pointer (some ⟨b, o + off, none⟩) ∧ ¬ M b ∧ b < w.heap.size ∧
        ∀ j f, (cellsOf k x)[j]? = some f → ∃ u, w.cell? ⟨b, o + j, none⟩ = some u ∧ CellW w M n u f

/-- An element, from an address on. -/
def ElemW (w : World) (M : Nat → Prop) (n : Nat) (b o : Nat) (k : Kind) (x : El k) : Prop :=
  ¬ M b ∧ b < w.heap.size ∧ ∀ j f, (cellsOf k x)[j]? = some f → ∃ u, w.cell? ⟨b, o + j, none⟩ = some u ∧ CellW w M n u f

theorem CellW.succ {w : World} {M : Nat → Prop} : ∀ {n : Nat} {v : Value} {f : F}, CellW w M n v f → CellW w M (n + 1) v f
  | 0, v, .sc u, h => h
  | 0, v, .err, h => h
  | n + 1, v, .sc u, h => h
  | n + 1, v, .err, h => h
  | n + 1, v, .sl t k l, ⟨A, c, h1, h2, h3, h4⟩ => ⟨A, c, h1, h2, h3, fun i x hx => by
      obtain ⟨b, o, ha, hm, hb, hc⟩ := h4 i x hx
      exact ⟨b, o, ha, hm, hb, fun j f hf => by obtain ⟨u, hu, hr⟩ := hc j f hf; exact ⟨u, hu, CellW.succ hr⟩⟩⟩
  | n + 1, v, .ep k x off, ⟨b, o, h1, hm, hb, hc⟩ => ⟨b, o, h1, hm, hb, fun j f hf => by obtain ⟨u, hu, hr⟩ := hc j f hf; exact ⟨u, hu, CellW.succ hr⟩⟩

theorem CellW.le {w : World} {M : Nat → Prop} {n m : Nat} {v : Value} {f : F} (h : CellW w M n v f) (hm : n ≤ m) : CellW w M m v f := by
  induction hm with
  | refl => exact h
  | step _ ih => exact ih.succ

/-- Memory that may not be written is as it was, and still may not be. -/
structure Keeps (w : World) (M : Nat → Prop) (w' : World) (M' : Nat → Prop) : Prop where
  size : w.heap.size ≤ w'.heap.size
  same : ∀ b, b < w.heap.size → ¬ M b → ¬ M' b ∧ w'.heap[b]? = w.heap[b]?

theorem cell_same {w w' : World} {b o : Nat} (h : w'.heap[b]? = w.heap[b]?) : w'.cell? ⟨b, o, none⟩ = w.cell? ⟨b, o, none⟩ := by
  unfold World.cell?; simp only [h]

theorem CellW.keeps {w w' : World} {M M' : Nat → Prop} (hk : Keeps w M w' M') : ∀ {n : Nat} {v : Value} {f : F}, CellW w M n v f → CellW w' M' n v f
  | 0, v, .sc u, h => h
  | 0, v, .err, h => h
  | n + 1, v, .sc u, h => h
  | n + 1, v, .err, h => h
  | n + 1, v, .sl t k l, ⟨A, c, h1, h2, h3, h4⟩ => ⟨A, c, h1, h2, h3, fun i x hx => by
      obtain ⟨b, o, ha, hm, hb, hc⟩ := h4 i x hx
      have hs := hk.same b hb hm
      exact ⟨b, o, ha, hs.1, Nat.lt_of_lt_of_le hb hk.size, fun j f hf => by
        obtain ⟨u, hu, hr⟩ := hc j f hf
        exact ⟨u, (cell_same hs.2).trans hu, CellW.keeps hk hr⟩⟩⟩
  | n + 1, v, .ep k x off, ⟨b, o, h1, hm, hb, hc⟩ => ⟨b, o, h1, (hk.same b hb hm).1, Nat.lt_of_lt_of_le hb hk.size, fun j f hf => by
      obtain ⟨u, hu, hr⟩ := hc j f hf
      exact ⟨u, (cell_same (hk.same b hb hm).2).trans hu, CellW.keeps hk hr⟩⟩

theorem CellW.one {w : World} {M : Nat → Prop} : ∀ {n : Nat} {v : Value} {f : F}, CellW w M n v f → v.oneCell' = true
  | 0, v, .sc u, ⟨h, h2⟩ => by subst h; cases v <;> first | rfl | simp [scal] at h2
  | n + 1, v, .sc u, ⟨h, h2⟩ => by subst h; cases v <;> first | rfl | simp [scal] at h2
  | 0, v, .err, ⟨_, _, h⟩ => by subst h; rfl
  | n + 1, v, .err, ⟨_, _, h⟩ => by subst h; rfl
  | n + 1, v, .sl t k l, ⟨A, c, h1, _⟩ => by subst h1; rfl
  | n + 1, v, .ep k x off, ⟨b, o, h1, _⟩ => by subst h1; rfl

/-- A slice that is told to be tight may be told not to be. -/
theorem CellW.loose {w : World} {M : Nat → Prop} : ∀ {n : Nat} {v : Value} {t : Bool} {k : Kind} {l : List (El k)}, CellW w M n v (.sl t k l) → CellW w M n v (.sl false k l)
  | n + 1, v, t, k, l, ⟨A, c, h1, h2, _, h4⟩ => ⟨A, c, h1, h2, fun h => by simp at h, h4⟩

/-- Where objects lie: block and capacity (of a row). -/
abbrev Loc := Id → Option (Nat × Nat)

mutual
/-- A cell. -/
def CW (w : World) (M : Nat → Prop) (h : Hp) (loc : Loc) : Value → C → Prop
  | v, .f x => ∃ n, CellW w M n v x
  | v, .bx id off => (∃ cs, h id = some (.box cs)) ∧ ∃ b c, loc id = some (b, c) ∧ v = .pointer (some ⟨b, off, none⟩)
  | v, .row id k => (∃ A n c, v = .slice A n c) ∧ (h id).isSome = true ∧ ∀ wr k' l, h id = some (.row wr k' l) → k' = k ∧
      (∀ b c, loc id = some (b, c) → v = .slice (some ⟨b, 0, none⟩) l.length c) ∧ (loc id = none → ∃ n, CellW w M n v (.sl true k' l))
  | v, .re id k i off => (h id).isSome = true ∧ (∀ wr k' l, h id = some (.row wr k' l) → k' = k) ∧ ∃ b c, loc id = some (b, c) ∧ v = .pointer (some ⟨b, i * szOf k + off, none⟩)
  | v, .fn f caps => ∃ us : List Value, v = .func (.func f) #[] us.toArray ∧ CWs w M h loc us caps
  | _, .hole => True
  | v, .und => v = undef
def CWs (w : World) (M : Nat → Prop) (h : Hp) (loc : Loc) : List Value → List C → Prop
  | [], [] => True
  | v :: vs, c :: cs => CW w M h loc v c ∧ CWs w M h loc vs cs
  | _, _ => False
end

mutual
def VW (w : World) (M : Nat → Prop) (h : Hp) (loc : Loc) : Value → V → Prop
  | v, .c x => CW w M h loc v x
  | v, .agg cs => ∃ us : List Value, v = .agg us.toArray ∧ CWs w M h loc us cs
  | v, .tup vs => ∃ us : List Value, v = .tuple us.toArray ∧ VWs w M h loc us vs
def VWs (w : World) (M : Nat → Prop) (h : Hp) (loc : Loc) : List Value → List V → Prop
  | [], [] => True
  | v :: vs, c :: cs => VW w M h loc v c ∧ VWs w M h loc vs cs
  | _, _ => False
end

def Obj.live : Obj → Bool
  | .dead => false
  | _ => true

/-- The blocks that may be written: what the caller keeps to itself, and the objects'. -/
def Mut (U : Nat → Prop) (h : Hp) (loc : Loc) (b : Nat) : Prop :=
  U b ∨ ∃ id o c, h id = some o ∧ o.live = true ∧ loc id = some (b, c)

/-- An object. -/
def OW (w : World) (M : Nat → Prop) (h : Hp) (loc : Loc) (id : Id) : Obj → Prop
  | .box cs => ∃ b c us T, loc id = some (b, c) ∧ w.heap[b]? = some (.cells us T (0, 0)) ∧ CWs w M h loc us.toList cs
  | .row wr k l => (loc id = none → wr = true → l = []) ∧ ∀ b c, loc id = some (b, c) → ∃ us T, w.heap[b]? = some (.cells us T (0, 0)) ∧ us.size = c * szOf k ∧ l.length ≤ c ∧
      ∀ i x j f, l[i]? = some x → (cellsOf k x)[j]? = some f → ∃ u n, us[i * szOf k + j]? = some u ∧ CellW w M n u f
  | .dead => True

/-- What is told of memory that nobody writes: which blocks, and what. -/
structure Gl where
  bl : Nat → Prop
  ok : World → Prop
  dep : ∀ w w', (∀ b, bl b → w'.heap[b]? = w.heap[b]?) → ok w → ok w'

/-- Nothing is told. -/
def Gl.none : Gl := ⟨fun _ => False, fun _ => True, fun _ _ _ _ => trivial⟩

/-- It holds; and the blocks are kept: nobody writes them, or the caller keeps them to itself. -/
def Gl.In (G : Gl) (U : Nat → Prop) (h : Hp) (loc : Loc) (w : World) : Prop := G.ok w ∧ ∀ b, G.bl b → b < w.heap.size ∧ (U b ∨ ¬ Mut U h loc b)

/-- The table of objects stands for what lies in memory. -/
structure HW (G : Gl) (U : Nat → Prop) (h : Hp) (loc : Loc) (w : World) : Prop where
  obj : ∀ id o, h id = some o → OW w (Mut U h loc) h loc id o
  inj : ∀ id id' o o' b c c', h id = some o → o.live = true → h id' = some o' → o'.live = true → loc id = some (b, c) → loc id' = some (b, c') → id = id'
  sep : ∀ id o b c, h id = some o → o.live = true → loc id = some (b, c) → ¬ U b ∧ b < w.heap.size
  low : ∀ b, U b → b < w.heap.size
  gl : G.In U h loc w

/-- What may become of an object. -/
def Turns (loc : Loc) (id : Id) : Obj → Obj → Prop
  | .box _, .box _ => True
  | .row wr k l, .row wr' k' l' => wr' = wr ∧ k' = k ∧ l'.length = l.length ∧ (loc id = none → Obj.row wr' k' l' = Obj.row wr k l)
  | .row _ _ _, .dead => True
  | .dead, .dead => True
  | _, _ => False

/-- From one state of memory to a later one. -/
structure Ext (U : Nat → Prop) (h : Hp) (loc : Loc) (w : World) (h' : Hp) (loc' : Loc) (w' : World) : Prop where
  os : w'.os = w.os
  tape : w'.tape = w.tape
  output : w'.output = w.output
  keeps : Keeps w (Mut U h loc) w' (Mut U h' loc')
  lc : ∀ id o, h id = some o → loc' id = loc id
  ent : ∀ id o, h id = some o → ∃ o', h' id = some o' ∧ Turns loc id o o'
  old : ∀ b, b < w.heap.size → U b → w'.heap[b]? = w.heap[b]?

theorem Turns.refl (loc : Loc) (id : Id) (o : Obj) : Turns loc id o o := by
  cases o <;> simp [Turns]

theorem Turns.dead {loc : Loc} {id : Id} {o o' : Obj} (h : Turns loc id o o') (hd : o.live = false) : o' = .dead := by
  cases o <;> simp [Obj.live] at hd
  cases o' <;> simp [Turns] at h ⊢

theorem Turns.live {loc : Loc} {id : Id} {o o' : Obj} (h : Turns loc id o o') (hd : o'.live = true) : o.live = true := by
  cases o <;> simp [Obj.live]
  cases o' <;> simp [Turns, Obj.live] at h hd

theorem Turns.trans {loc loc' : Loc} {id : Id} {a b c : Obj} (h : Turns loc id a b) (h' : Turns loc' id b c) (hl : b.live = true → loc' id = loc id) : Turns loc id a c := by
  cases c with
  | dead => cases b <;> simp [Turns] at h' <;> cases a <;> simp [Turns] at h ⊢
  | box cs => cases b <;> simp [Turns] at h' <;> cases a <;> simp [Turns] at h ⊢
  | row wr k l =>
    cases b <;> simp [Turns] at h'
    cases a <;> simp [Turns] at h
    obtain ⟨rfl, rfl, h1, h2⟩ := h
    obtain ⟨rfl, rfl, h3, h4⟩ := h'
    refine ⟨rfl, rfl, h3.trans h1, fun hn => ?_⟩
    have := hl rfl
    have e1 := h2 hn
    have e2 := h4 (this.trans hn)
    simp at e1 e2 ⊢
    rw [e2, e1]

theorem Ext.refl (U : Nat → Prop) (h : Hp) (loc : Loc) (w : World) : Ext U h loc w h loc w :=
  ⟨rfl, rfl, rfl, ⟨Nat.le_refl _, fun _ _ hm => ⟨hm, rfl⟩⟩, fun _ _ _ => rfl, fun id o ho => ⟨o, ho, Turns.refl _ _ _⟩, fun _ _ _ => rfl⟩

theorem Ext.trans {U : Nat → Prop} {h h1 h2 : Hp} {loc loc1 loc2 : Loc} {w w1 w2 : World} (a : Ext U h loc w h1 loc1 w1) (b : Ext U h1 loc1 w1 h2 loc2 w2) : Ext U h loc w h2 loc2 w2 := by
  refine ⟨b.os.trans a.os, b.tape.trans a.tape, b.output.trans a.output, ⟨Nat.le_trans a.keeps.size b.keeps.size, fun k hk hm => ?_⟩, ?_, ?_, fun k hk hu => ?_⟩
  · have h1 := a.keeps.same k hk hm
    have h2 := b.keeps.same k (Nat.lt_of_lt_of_le hk a.keeps.size) h1.1
    exact ⟨h2.1, h2.2.trans h1.2⟩
  · intro id o ho
    obtain ⟨o1, ho1, t1⟩ := a.ent id o ho
    rw [b.lc id o1 ho1, a.lc id o ho]
  · intro id o ho
    obtain ⟨o1, ho1, t1⟩ := a.ent id o ho
    obtain ⟨o2, ho2, t2⟩ := b.ent id o1 ho1
    exact ⟨o2, ho2, t1.trans t2 (fun hl => a.lc id o ho)⟩
  · rw [b.old k (Nat.lt_of_lt_of_le hk a.keeps.size) hu, a.old k hk hu]

mutual
theorem CW.ext {U : Nat → Prop} {h h' : Hp} {loc loc' : Loc} {w w' : World} (e : Ext U h loc w h' loc' w') : ∀ (c : C) {v : Value}, CW w (Mut U h loc) h loc v c → CW w' (Mut U h' loc') h' loc' v c
  | .f x, v, hc => by
    unfold CW at hc ⊢
    obtain ⟨n, hn⟩ := hc
    exact ⟨n, hn.keeps e.keeps⟩
  | .bx id off, v, hc => by
    unfold CW at hc ⊢
    obtain ⟨⟨ds, ho⟩, b, c, hb, hv⟩ := hc
    obtain ⟨o', ho', ht⟩ := e.ent id _ ho
    cases o' with
    | box cs => exact ⟨⟨cs, ho'⟩, b, c, by rw [e.lc id _ ho]; exact hb, hv⟩
    | row => simp [Turns] at ht
    | dead => simp [Turns] at ht
  | .row id k, v, hc => by
    unfold CW at hc ⊢
    obtain ⟨hsh, h1, h2⟩ := hc
    obtain ⟨o, ho⟩ := Option.isSome_iff_exists.1 h1
    obtain ⟨o', ho', ht⟩ := e.ent id o ho
    refine ⟨hsh, by rw [ho']; rfl, fun wr k' l hcs => ?_⟩
    rw [ho'] at hcs
    obtain rfl := Option.some.inj hcs
    cases o with
    | box ds => simp [Turns] at ht
    | dead => simp [Turns] at ht
    | row wr0 k0 l0 =>
      obtain ⟨rfl, rfl, hl, hn⟩ := ht
      obtain ⟨rfl, h3, h4⟩ := h2 _ _ _ ho
      have hloc := e.lc id _ ho
      refine ⟨rfl, fun b c hb => ?_, fun hb => ?_⟩
      · rw [hloc] at hb; rw [hl]; exact h3 b c hb
      · rw [hloc] at hb
        have := hn hb
        simp at this
        subst this
        obtain ⟨n, hn⟩ := h4 hb
        exact ⟨n, hn.keeps e.keeps⟩
  | .re id k i off, v, hc => by
    unfold CW at hc ⊢
    obtain ⟨h1, h2, b, c, hb, hv⟩ := hc
    obtain ⟨o, ho⟩ := Option.isSome_iff_exists.1 h1
    obtain ⟨o', ho', ht⟩ := e.ent id o ho
    refine ⟨by rw [ho']; rfl, fun wr k' l hcs => ?_, b, c, by rw [e.lc id _ ho]; exact hb, hv⟩
    rw [ho'] at hcs
    obtain rfl := Option.some.inj hcs
    cases o with
    | box ds => simp [Turns] at ht
    | dead => simp [Turns] at ht
    | row wr0 k0 l0 =>
      obtain ⟨rfl, rfl, hl, hn⟩ := ht
      exact h2 _ _ _ ho
  | .fn f caps, v, hc => by
    unfold CW at hc ⊢
    obtain ⟨us, hv, hs⟩ := hc
    exact ⟨us, hv, CWs.ext e caps hs⟩
  | .hole, v, hc => by unfold CW; trivial
  | .und, v, hc => by unfold CW at hc ⊢; exact hc
theorem CWs.ext {U : Nat → Prop} {h h' : Hp} {loc loc' : Loc} {w w' : World} (e : Ext U h loc w h' loc' w') : ∀ (cs : List C) {vs : List Value}, CWs w (Mut U h loc) h loc vs cs → CWs w' (Mut U h' loc') h' loc' vs cs
  | [], [], _ => by unfold CWs; trivial
  | [], _ :: _, hc => by unfold CWs at hc; exact hc.elim
  | c :: cs, [], hc => by unfold CWs at hc; exact hc.elim
  | c :: cs, v :: vs, hc => by unfold CWs at hc ⊢; exact ⟨CW.ext e c hc.1, CWs.ext e cs hc.2⟩
end

mutual
theorem VW.ext {U : Nat → Prop} {h h' : Hp} {loc loc' : Loc} {w w' : World} (e : Ext U h loc w h' loc' w') : ∀ (c : V) {v : Value}, VW w (Mut U h loc) h loc v c → VW w' (Mut U h' loc') h' loc' v c
  | .c x, v, hc => by unfold VW at hc ⊢; exact CW.ext e x hc
  | .agg cs, v, hc => by
    unfold VW at hc ⊢
    obtain ⟨us, hv, hs⟩ := hc
    exact ⟨us, hv, CWs.ext e cs hs⟩
  | .tup vs, v, hc => by
    unfold VW at hc ⊢
    obtain ⟨us, hv, hs⟩ := hc
    exact ⟨us, hv, VWs.ext e vs hs⟩
theorem VWs.ext {U : Nat → Prop} {h h' : Hp} {loc loc' : Loc} {w w' : World} (e : Ext U h loc w h' loc' w') : ∀ (cs : List V) {vs : List Value}, VWs w (Mut U h loc) h loc vs cs → VWs w' (Mut U h' loc') h' loc' vs cs
  | [], [], _ => by unfold VWs; trivial
  | [], _ :: _, hc => by unfold VWs at hc; exact hc.elim
  | c :: cs, [], hc => by unfold VWs at hc; exact hc.elim
  | c :: cs, v :: vs, hc => by unfold VWs at hc ⊢; exact ⟨VW.ext e c hc.1, VWs.ext e cs hc.2⟩
end

end Go.Vm
